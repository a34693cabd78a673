/- Own engine: Vd1, Vd2, Vd3. -/
import Derived.WalkKit
import Derived.Deep.LoopGhost
import Derived.Orders
import Derived.IntWalk
import Derived.KernelRfl
set_option linter.unusedVariables false
set_option linter.unusedSimpArgs false
namespace Go.Vc
abbrev Qa:=@Nat.eq_of_beq_eq_true
abbrev jA:=@Bool.and_eq_true
abbrev jF:=@decide_eq_false
abbrev jK:=@decide_eq_true
abbrev jm:=@cond_false
abbrev tK:=@List.length_append
abbrev uZ:=@Int.toNat_natCast
abbrev vN:=@List.mem_append
abbrev zx:=@List.length_cons
abbrev zL:=@List.mem_flatMap
abbrev rC:=@Nat.le_refl
abbrev EU:=@of_decide_eq_true
abbrev FY:=@List.mem_singleton
abbrev C9:=@List.length_take
abbrev BP:=@List.length_nil
abbrev zN:=@List.mem_cons
abbrev zM:=@Nat.zero_add
abbrev Lh:=@decide_eq_true_eq
abbrev JG:=@List.take_length
abbrev kT:=@if_neg
abbrev RX:=@Bool.false_eq_true
abbrev Qau:=@List.eq_nil_of_length_eq_zero
abbrev Qav:=@List.getElem?_eq_getElem
abbrev TC:=@Option.some.injEq
abbrev nI:=@if_pos
abbrev UD:=@List.any_eq_true
abbrev Lj:=@List.map_cons
abbrev Qa0:=@Nat.le_of_ble_eq_true
abbrev JC:=@List.mem_map
abbrev Qa2:=@List.append_assoc
abbrev KF:=@Nat.le_trans
abbrev Jd:=@Nat.zero_le
abbrev ZT:=@List.mem_filter
abbrev ZR:=@Option.map_some
abbrev Qa7:=@Bool.cond_eq_ite
abbrev Qa8:=@Int.eq_ofNat_of_zero_le
abbrev Qa9:=@List.mem_cons_of_mem
abbrev Qb:=@Nat.add_zero
abbrev Qba:=@Bool.eq_iff_iff
abbrev Qbb:=@List.map_congr_left
abbrev Qbc:=@List.drop_eq_getElem_cons
abbrev Qbd:=@List.all_eq_true
abbrev Qbe:=@List.length_drop
abbrev Qbf:=@List.take_append_drop
abbrev Qbg:=@Bool.not_eq_true'
abbrev Qbh:=@List.pairwise_cons
abbrev Qbi:=@Bool.or_eq_true
abbrev Qbj:=@Bool.not_true
abbrev Qbk:=@List.append_nil
abbrev Qbl:=@List.mem_cons_self
abbrev Qbm:=@of_decide_eq_false
abbrev Qbn:=@List.getElem?_eq_some_iff
abbrev Qbo:=@beq_eq_false_iff_ne
abbrev ZU:=@Int.le_refl
abbrev Qbq:=@List.not_mem_nil
abbrev Vt:=@beq_iff_eq
abbrev Qbs:=@List.nil_append
abbrev Qbt:=@Bool.false_and
abbrev Qbu:=@Nat.mul_le_mul_right
abbrev Ll:=@congrArg
abbrev Qbw:=@Prod.mk.injEq
abbrev Qbx:=@List.length_singleton
abbrev Qby:=@List.length_map
abbrev Qbz:=@List.forall_mem_cons
abbrev Qb0:=@Nat.mul_comm
abbrev Qb1:=@List.cons_append
abbrev Qb2:=@Option.isSome_iff_exists
abbrev Qb3:=@List.mem_append_right
abbrev Qb4:=@List.getElem?_map
abbrev Qb5:=@List.getElem?_append_right
abbrev Qb6:=@List.mem_append_left
abbrev Qb7:=@List.mem_iff_getElem
abbrev Qb8:=@List.mem_of_getElem?
abbrev Qb9:=@Bool.true_and
abbrev Qc:=@List.getD_cons_succ
abbrev Qca:=@List.getD_cons_zero
abbrev Qcb:=@List.take_succ_cons
abbrev Qcc:=@List.flatMap_cons
abbrev Qcd:=@Nat.blt_eq
abbrev Qce:=@Nat.lt_of_lt_of_le
abbrev Qcf:=@Eq.trans
abbrev Qcg:=@List.filter_cons_of_pos
abbrev Qch:=@List.getElem?_cons_zero
abbrev Qci:=@List.map_toArray
abbrev Qcj:=@List.all_cons
abbrev Qck:=@Option.map_eq_some_iff
abbrev Qcl:=@List.length_set
abbrev Qcm:=@Option.map_none
abbrev Qcn:=@UInt8.toNat_inj
abbrev Qco:=@List.pairwise_iff_getElem
abbrev Qcp:=@Classical.choose_spec
abbrev Qcq:=@List.filter_append
abbrev Qcr:=@List.getElem?_take
abbrev Qcs:=@Nat.mod_eq_of_lt
abbrev Qct:=@List.any_cons
abbrev Qcu:=@Bool.or_eq_false_iff
abbrev Qcv:=@List.mem_range
abbrev Qcw:=@Array.toList_append
abbrev Qcx:=@List.append_eq_nil_iff
abbrev Qcy:=@List.map_map
abbrev Qcz:=@List.take_of_length_le
abbrev Qc0:=@Bool.not_eq_true
abbrev Qc1:=@List.drop_length
abbrev Qc2:=@beq_self_eq_true
abbrev Qc3:=@List.getElem?_drop
abbrev Qc4:=@List.getElem?_append_left
abbrev Qc5:=@List.any_eq_false
abbrev Qc6:=@List.map_nil
abbrev Qc7:=@Nat.lt_or_ge
abbrev Qc8:=@Array.length_toList
abbrev Qc9:=@List.length_pos_iff
abbrev Qd:=@Nat.mul_le_mul_left
abbrev Qda:=@List.pairwise_singleton
abbrev Qdb:=@Option.getD_some
abbrev Qdc:=@List.mem_filterMap
abbrev Qdd:=@bne_iff_ne
abbrev Qde:=@List.foldl_cons
abbrev Qdf:=@Bool.and_eq_false_iff
abbrev Qdg:=@List.take_add_one
abbrev Qdh:=@List.take_sublist_take_left
abbrev Qdi:=@Nat.two_pow_add_eq_or_of_lt
abbrev Qdj:=@Array.getElem?_eq_some_iff
abbrev Qdk:=@List.nodup_nil
abbrev Qdl:=@Nat.mod_lt
abbrev Qdm:=@List.flatMap_map
abbrev Qdn:=@Nat.add_comm
abbrev Qdo:=@Nat.le_of_eq
abbrev Qdp:=@Nat.lt_succ_self
abbrev Qdq:=@Array.mapM_eq_mapM_toList
abbrev Qdr:=@List.filterMap_cons
abbrev Qds:=@List.getElem_of_mem
abbrev Qdt:=@Bool.false_or
abbrev Qdu:=@Prod.ext
abbrev Qdv:=@List.cons.injEq
abbrev Qdw:=@Option.some.inj
abbrev Qdx:=@Nat.add_mul
abbrev Qdy:=@List.drop_eq_nil_of_le
abbrev Qdz:=@List.drop_zero
abbrev Qd0:=@List.foldl_append
abbrev Qd1:=@List.length_eq_one_iff
abbrev Qd2:=@List.nodup_append
abbrev Qd3:=@Nat.lt_trichotomy
abbrev Qd4:=@Nat.pow_succ
abbrev Qd5:=@Array.getElem?_modify
abbrev Qd6:=@List.concat_eq_append
abbrev Qd7:=@List.eq_nil_or_concat
abbrev Qd8:=@List.getElem?_eq_none
abbrev Qd9:=@List.length_replicate
abbrev Qe:=@UInt8.lt_iff_toNat_lt
abbrev Qea:=@List.getElem_mem
abbrev Qeb:=@Bool.and_true
abbrev Qec:=@Nat.add_assoc
abbrev Qed:=@Nat.mul_one
abbrev Qee:=@Nat.pow_le_pow_right
abbrev Qef:=@List.map_append
abbrev Qeg:=@Nat.mul_add_mod
abbrev Qeh:=@Bool.and_false
abbrev Qei:=@List.find?_eq_none
abbrev Qej:=@List.take_zero
abbrev Qek:=@Option.toList_some
abbrev Qel:=@List.map_id
abbrev Qem:=@Int.lt_irrefl
abbrev Qen:=@List.take_set
abbrev Qeo:=@Nat.mul_assoc
theorem au{p:Prop}(h:p:=by omega):p:=h
theorem p_{p:Prop}(h:p:=by simp only[FX];omega):p:=h
theorem pF{p:Prop}(h:p:=by simp[Op.operands]):p:=h
theorem jy{p:Prop}(h:p:=by decide):p:=h
theorem kM{p:Prop}(h:p:=by simp):p:=h
theorem xI{p:Prop}(h:p:=by simp;omega):p:=h
theorem qg{p:Prop}(h:p:=by grind):p:=h
theorem qbg{p:Prop}(h:p:=by rw[he];simp[Sl.refs,Sv.refs,Lf.refs]):p:=h
theorem qbk{p:Prop}(h:p:=by rintro rfl;exact hfr _ (rC _) (by omega) (h.al _ _ hl)):p:=h
theorem qbo{p:Prop}(h:p:=by simp[Sl.refs,Sv.refs,Lf.refs]):p:=h
theorem qbp{p:Prop}(h:p:=by rw[hmr];exact zL.2 ⟨_,hx,hlx⟩):p:=h
theorem qbr{p:Prop}(h:p:=by simpa using h):p:=h
theorem qbx{p:Prop}(h:p:=by simp[Lf.refs]):p:=h
theorem qb0{p:Prop}(h:p:=by simpa using hj):p:=h
theorem qb3{p:Prop}(h:p:=by simpa using lift (a1:=[]) b2 _ fun x hx=>by grind):p:=h
theorem qb6{p:Prop}(h:p:=by rw[Qcl];omega):p:=h
theorem qb7{p:Prop}(h:p:=by rw[hx];simp):p:=h
theorem qb8{p:Prop}(h:p:=by simp only[Op.operands,JC];grind):p:=h
theorem qb9{p:Prop}(h:p:=by rw[hmr];exact zL.2 ⟨.tmp t,qG.1 ht,hl⟩):p:=h
theorem qc{p:Prop}(h:p:=by rw[hb];rfl):p:=h
theorem qca{p:Prop}(h:p:=by simpa[Af]using hw):p:=h
theorem qcb{p:Prop}(h:p:=by rw[C9];omega):p:=h
theorem qcc{p:Prop}(h:p:=by simp[execOp,ho,hc,asBool]):p:=h
theorem qcd{p:Prop}(h:p:=by simp[hl]):p:=h
theorem qcg{p:Prop}(h:p:=by simpa using h1):p:=h
theorem qch{p:Prop}(h:p:=by rw[hsz];omega):p:=h
theorem qci{p:Prop}(h:p:=by simpa using hx):p:=h
theorem qck{p:Prop}(h:p:=by rw[e];rfl):p:=h
open Go.RowKit
inductive Pv where
 | bool (b:Bool)
 | int (k:IntKind) (n:Int)
 | str (s:List UInt8)
structure BJ where
 t:TypeId
 agg:Bool
 xs:List Pv
def Pv.val:Pv->Value
 | .bool b=> .bool b
 | .int k n=> .int k n
 | .str s=> .string ⟨s.toArray⟩
def BJ.inner (i:BJ):Value:=
 match i.agg,i.xs with
 | false,[x]=>x.val
 | _,a=> .agg (a.map Pv.val).toArray
def ED:Option BJ->Value
 | none=> .nilIface
 | some i=> .iface i.t i.inner
def Pv.fits:Pv->Prop
 | .str s=>s.length<=9223372036854775807
 | _=>True
def aus:Option BJ->Prop
 | none=>True
 | some i=>∀p∈i.xs,p.fits
inductive Dl (D:Type):Type where
 | bool (b:Bool)
 | int (k:IntKind) (n:Int)
 | str (s:List UInt8)
 | dat (d:D)
 | ayX
inductive Xt (D:Type):Type where
 | ifd (t:TypeId) (agg:Bool) (xs:List (Dl D))
 | clo (f:FuncId) (agg:Bool) (xs:List (Dl D))
 | clip (d:D)
inductive Lf (D:Type):Type where
 | any
 | val (v:Value)
 | bool (b:Bool)
 | int (k:IntKind) (n:Int)
 | str (s:List UInt8)
 | ptr (l off:Nat)
 | dat (d:D)
 | elt (d:D) (i j:Nat)
 | fn (f:FuncId) (caps:List Nat)
 | own (l:Nat)
 | opt (l i j sz:Nat)
 | unk (p:Bool->Prop)
 | part (l i j sz:Nat) (f:D->Option D)
 | glb (i:Nat)
 | Tz (v:Option BJ)
 | xt (e:Xt D)
inductive Bk (D:Type):Type where
 | cells (cs:List (Lf D))
 | row (e:TypeId) (d:D)
 | xZ (d:D)
 | iter (s:List UInt8) (pos:Nat)
 | map (d:D)
 | tc (t:TypeId) (cs:List (Lf D))
inductive Sv (D:Type):Type where
 | lf (x:Lf D)
 | agg (xs:List (Lf D))
inductive Sl (D:Type):Type where
 | one (x:Sv D)
 | wU (xs:List (Sv D))
structure Mp (D:Type) where
 kind:Nat
 agg:Bool
 zero:List Pv
 kvs:List (Pv×List Pv)
 has:Pv->Bool
 get:Pv->List (Lf D)
 put:Pv->List Pv->D
 len:Nat
structure Sh (D:Type) where
 size:D->Nat
 len:D->Nat
 cell:D->Nat->Nat->Lf D
 make:TypeId->Nat->List (Lf D)->Option D
 zero:TypeId->Nat->List (Lf D)->Option D
 set:D->Nat->Nat->List (Lf D)->Option D
 cat:D->D->Option D
 sub:D->Nat->Nat->Option D
 Po:Nat->Option D
 text:TypeId->List UInt8->Option D
 mp:D->Option (Mp D):=fun _=>none
 run:Bool:=false
 asP:TypeId->Option D:=fun _=>none
def uq (b:Bool)(a:List Pv):Value:=
 match b,a with
 | false,[x]=>x.val
 | _,a=> .agg (a.map Pv.val).toArray
def ayj (w:World)(c:Bool)(a:List (Pv×List Pv))(v:Value):Prop:=
 (∀p∈a,p.1.fits/\∀x∈p.2,x.fits)/\((v= .map none/\a=[])\/
  ∃b d n,v= .map (some b)/\w.heap[b]? =some (.map d n)/\d.toList.map (fun e=>(e.key,e.val))=a.map fun p=>(p.1.val,uq c p.2))
def aaU {D:Type}(S:Sh D)(a i j:Nat)(d:D):Option D:=if Nat.beq a (S.size d)then S.sub d i j else none
def Lf.plain {D:Type}:Lf D->Value->Prop
 | .val x,u=>u=x
 | .bool b,u=>u= .bool b
 | .int k n,u=>u= .int k n
 | .str s,u=>u= .string ⟨s.toArray⟩/\s.length<=9223372036854775807
 | .dat _,_=>True
 | .Tz v,u=>u=ED v/\aus v
 | _,_=>False
inductive Fp {D:Type} (S:Sh D) (w:World):D->Value->Prop where
 | mp (d:D) (m:Mp D) (v:Value) (hm:S.mp d=some m) (hl:S.len d=0) (hz:S.size d=0) (h:ayj w m.agg m.kvs v):Fp S w d v
 | mk (d:D) (hno:S.mp d=none) (a:Option Addr) (cap:Nat) (U:Nat->Nat->Value) (hcap:S.len d<=cap) (hlen:S.len d<=9223372036854775807)
   (hcell:∀i j,i < S.len d->j < S.size d->∃ad,a=some ad/\w.cell? (ad.add (i*S.size d+j))=some (U i j))
   (hpl:∀i j,i < S.len d->j < S.size d->Lf.plain (S.cell d i j) (U i j))
   (hdat:∀i j d',i < S.len d->j < S.size d->S.cell d i j= .dat d'->Fp S w d' (U i j)):Fp S w d (.slice a (S.len d) cap)
def dF {D:Type}(S:Sh D)(M:Nat->Prop)(w:World)(d:D)(v:Value):Prop:=
 ∀w':World,(∀b,b < w.heap.size->¬M b->w'.heap[b]? =w.heap[b]?)->Fp S w' d v
def Lf.jY {D:Type}:Lf D->Bool
 | .bool _ | .int _ _ | .str _ | .dat _ | .Tz _=>true
 | _=>false
def Dl.Rel {D:Type}(S:Sh D)(M:Nat->Prop)(w:World):Dl D->Value->Prop
 | .bool b,v=>v= .bool b
 | .int k n,v=>v= .int k n
 | .str s,v=>v= .string ⟨s.toArray⟩/\s.length<=9223372036854775807
 | .dat d,v=>dF S M w d v
 | .ayX,v=>v= .slice none 0 0
def wz {D:Type}(S:Sh D)(M:Nat->Prop)(w:World):List (Dl D)->List Value->Prop
 | [],[]=>True
 | x::b,v::a=>x.Rel S M w v/\wz S M w b a
 | _,_=>False
def QS {D:Type}(S:Sh D)(M:Nat->Prop)(w:World):Bool->List (Dl D)->Value->Prop
 | false,[x],u=>x.Rel S M w u
 | true,b,u=>∃a:List Value,u= .agg a.toArray/\wz S M w b a
 | _,_,_=>False
def Xt.Rel {D:Type}(S:Sh D)(M:Nat->Prop)(w:World):Xt D->Value->Prop
 | .ifd t b c,v=>∃u,v= .iface t u/\QS S M w b c u
 | .clo f b c,v=>∃u,v= .func (.func f) #[u] #[]/\QS S M w b c u
 | .clip d,v=>∃a,v= .slice a (S.len d) (S.len d)/\dF S M w d v
def Lf.Rel {D:Type}(S:Sh D)(M:Nat->Prop)(w:World)(g:Nat->Option Value):Lf D->Value->Prop
 | .any,_=>True
 | .val x,v=>v=x
 | .bool b,v=>v= .bool b
 | .int k n,v=>v= .int k n
 | .str s,v=>v= .string ⟨s.toArray⟩/\s.length<=9223372036854775807
 | .ptr l o,v=>∃b,g l=some (.pointer (some ⟨b,0,none⟩))/\v= .pointer (some ⟨b,o,none⟩)
 | .dat d,v=>dF S M w d v
 | .elt d i j,v=>∃a n c,dF S M w d (.slice (some a) n c)/\i < S.len d/\v= .pointer (some (a.add (i*S.size d+j)))
 | .fn f m,v=>∃q:List Value,v= .func (.func f) #[] q.toArray/\m.map g=q.map some
 | .own l,v=>g l=some v
 | .opt l i j h,v=>∃b n c,g l=some (.slice (some ⟨b,0,none⟩) n c)/\v= .pointer (some ⟨b,i*h+j,none⟩)
 | .unk p,v=>∃b,v= .bool b/\p b
 | .part l i j h f,v=>∃a n c,g l=some (.slice a n c)/\v=sliced a i j c h/\i<=j/\j<=n/\f=aaU S h i j
 | .glb i,v=>v= .pointer (some ⟨i,0,none⟩)
 | .Tz x,v=>v=ED x/\aus x
 | .xt e,v=>e.Rel S M w v
def bf {D:Type}(S:Sh D)(M:Nat->Prop)(w:World)(g:Nat->Option Value):List (Lf D)->List Value->Prop
 | [],[]=>True
 | x::b,v::a=>x.Rel S M w g v/\bf S M w g b a
 | _,_=>False
def Sv.Rel {D:Type}(S:Sh D)(M:Nat->Prop)(w:World)(g:Nat->Option Value):Sv D->Value->Prop
 | .lf x,v=>x.Rel S M w g v
 | .agg b,v=>∃a:List Value,v= .agg a.toArray/\bf S M w g b a
def iE {D:Type}(S:Sh D)(M:Nat->Prop)(w:World)(g:Nat->Option Value):List (Sv D)->List Value->Prop
 | [],[]=>True
 | x::b,v::a=>x.Rel S M w g v/\iE S M w g b a
 | _,_=>False
def Sl.Rel {D:Type}(S:Sh D)(M:Nat->Prop)(w:World)(g:Nat->Option Value):Sl D->Value->Prop
 | .one x,v=>x.Rel S M w g v
 | .wU b,v=>∃a:List Value,v= .tuple a.toArray/\iE S M w g b a
structure Keeps (M:Nat->Prop)(w:World)(M':Nat->Prop)(w':World):Prop where
 size:w.heap.size<=w'.heap.size
 same:∀b,b < w.heap.size->¬M b->¬M' b/\w'.heap[b]? =w.heap[b]?
section
variable {D:Type}{S:Sh D}{M M':Nat->Prop}{w w':World}{g g':Nat->Option Value}
theorem dF.keep {d:D}{v:Value}(h:dF S M w d v)(k:Keeps M w M' w'):dF S M' w' d v:=fun c f=>
 h c fun b a e=>(f b (Qce a k.size) (k.same b a e).1).trans (k.same b a e).2
theorem Dl.Rel.keep {x:Dl D}{v:Value}(h:x.Rel S M w v)(k:Keeps M w M' w'):x.Rel S M' w' v:=by
 cases x with
 | dat d=>exact dF.keep h k
 | _=>exact h
theorem wz.keep:∀{b:List (Dl D)} {a:List Value},wz S M w b a->Keeps M w M' w'->wz S M' w' b a
 | [],[],_,_=>trivial
 | x::b,v::a,h,k=>⟨h.1.keep k,wz.keep h.2 k⟩
theorem QS.keep:∀{b:Bool} {a:List (Dl D)} {u:Value},QS S M w b a u->Keeps M w M' w'->QS S M' w' b a u
 | false,[x],u,h,k=>Dl.Rel.keep h k
 | true,a,u,h,k=>by obtain⟨d,e,c⟩:=h;exact⟨d,e,c.keep k⟩
theorem Xt.Rel.keep {e:Xt D}{v:Value}(h:e.Rel S M w v)(k:Keeps M w M' w'):e.Rel S M' w' v:=by
 cases e with
 | ifd t g i=>obtain⟨u,c,b⟩:=h;exact⟨u,c,b.keep k⟩
 | clo f g i=>obtain⟨u,c,b⟩:=h;exact⟨u,c,b.keep k⟩
 | clip d=>obtain⟨a,c,b⟩:=h;exact⟨a,c,dF.keep b k⟩
theorem dF.mono {d:D}{v:Value}{a:Nat->Prop}(h:dF S M w d v)(g:∀b,a b->M b):dF S a w d v:=fun c e=>h c fun b f j=>e b f fun i=>j (g b i)
theorem Dl.Rel.mono {a:Nat->Prop}{x:Dl D}{v:Value}(h:x.Rel S M w v)(c:∀b,a b->M b):x.Rel S a w v:=by
 cases x with
 | dat d=>exact dF.mono h c
 | _=>exact h
theorem wz.mono {a:Nat->Prop}(e:∀b,a b->M b):∀{d:List (Dl D)} {c:List Value},wz S M w d c->wz S a w d c
 | [],[],_=>trivial
 | x::d,v::c,h=>⟨h.1.mono e,wz.mono e h.2⟩
theorem QS.mono {a:Nat->Prop}(e:∀b,a b->M b):∀{d:Bool} {c:List (Dl D)} {u:Value},QS S M w d c u->QS S a w d c u
 | false,[x],u,h=>Dl.Rel.mono h e
 | true,c,u,h=>by obtain⟨g,i,f⟩:=h;exact⟨g,i,f.mono e⟩
theorem Xt.Rel.mono {g:Nat->Prop}{e:Xt D}{v:Value}(h:e.Rel S M w v)(j:∀b,g b->M b):e.Rel S g w v:=by
 cases e with
 | ifd t k l=>obtain⟨u,i,c⟩:=h;exact⟨u,i,c.mono j⟩
 | clo f k l=>obtain⟨u,i,c⟩:=h;exact⟨u,i,c.mono j⟩
 | clip d=>obtain⟨a,i,c⟩:=h;exact⟨a,i,dF.mono c j⟩
def afD (S:Sh D)(M:Nat->Prop)(w:World):Prop:=∀i d,S.Po i=some d->dF S M w d (.slice (some ⟨i,0,none⟩) (S.len d) (S.len d))
theorem afD.keep (h:afD S M w)(k:Keeps M w M' w'):afD S M' w':=fun i d a=>(h i d a).keep k
theorem afD.mono {a:Nat->Prop}(h:afD S M w)(e:∀b,a b->M b):afD S a w:=fun i d c=>(h i d c).mono e
def More (g a:Nat->Option Value):Prop:=∀l v,g l=some v->a l=some v
theorem More.refl (g:Nat->Option Value):More g g:=fun _ _ h=>h
theorem More.map:∀{a:List Nat} {b:List Value},More g g'->a.map g=b.map some->a.map g'=b.map some
 | [],[],_,_=>rfl
 | c::a,v::b,m,h=>by
  simp only[Lj,Qdv]at h⊢;exact⟨m _ _ h.1,More.map m h.2⟩
 | [],_::_,_,h=>by simp at h
 | _::_,[],_,h=>by simp at h
theorem Lf.Rel.keep {x:Lf D}{v:Value}(h:x.Rel S M w g v)(k:Keeps M w M' w')(m:More g g'):x.Rel S M' w' g' v:=by
 cases x with
 | any=>trivial
 | val x=>exact h
 | bool b=>exact h
 | int k n=>exact h
 | str s=>exact h
 | ptr l o=>obtain⟨b,q,c⟩:=h;exact⟨b,m _ _ q,c⟩
 | dat d=>exact dF.keep h k
 | elt d i j=>obtain⟨a,n,r,q,c⟩:=h;exact⟨a,n,r,q.keep k,c⟩
 | fn f t=>obtain⟨y,q,c⟩:=h;exact⟨y,q,More.map m c⟩
 | own l=>exact m _ _ h
 | opt l i j u=>obtain⟨b,n,r,q,c⟩:=h;exact⟨b,n,r,m _ _ q,c⟩
 | unk p=>exact h
 | part l i j u f=>obtain⟨a,n,r,q,c⟩:=h;exact⟨a,n,r,m _ _ q,c⟩
 | glb i=>exact h
 | Tz x=>exact h
 | xt e=>exact Xt.Rel.keep h k
theorem bf.keep:∀{b:List (Lf D)} {a:List Value},bf S M w g b a->Keeps M w M' w'->More g g'->bf S M' w' g' b a
 | [],[],_,_,_=>trivial
 | x::b,v::a,h,k,m=>⟨h.1.keep k m,bf.keep h.2 k m⟩
theorem bf.length:∀{b:List (Lf D)} {a:List Value},bf S M w g b a->b.length=a.length
 | [],[],_=>rfl
 | _::_,_::_,h=>by simp[bf.length h.2]
theorem bf.get:∀{b:List (Lf D)} {a:List Value} (i:Nat) {x:Lf D},bf S M w g b a->b[i]? =some x->∃v,a[i]? =some v/\x.Rel S M w g v
 | [],[],i,x,_,h=>by simp at h
 | y::b,v::a,0,x,h,e=>⟨v,rfl,by simp at e;exact e▸h.1⟩
 | y::b,v::a,i+1,x,h,e=>by simpa using bf.get i h.2 (by simpa using e)
theorem Sv.Rel.keep {x:Sv D}{v:Value}(h:x.Rel S M w g v)(k:Keeps M w M' w')(m:More g g'):x.Rel S M' w' g' v:=by
 cases x with
 | lf x=>exact Lf.Rel.keep h k m
 | agg c=>obtain⟨a,rfl,b⟩:=h;exact⟨a,rfl,b.keep k m⟩
theorem iE.keep:∀{b:List (Sv D)} {a:List Value},iE S M w g b a->Keeps M w M' w'->More g g'->iE S M' w' g' b a
 | [],[],_,_,_=>trivial
 | x::b,v::a,h,k,m=>⟨h.1.keep k m,iE.keep h.2 k m⟩
theorem iE.get:∀{b:List (Sv D)} {a:List Value} (i:Nat) {x:Sv D},iE S M w g b a->b[i]? =some x->∃v,a[i]? =some v/\x.Rel S M w g v
 | [],[],i,x,_,h=>by simp at h
 | y::b,v::a,0,x,h,e=>⟨v,rfl,by simp at e;exact e▸h.1⟩
 | y::b,v::a,i+1,x,h,e=>by simpa using iE.get i h.2 (by simpa using e)
theorem iE.length:∀{b:List (Sv D)} {a:List Value},iE S M w g b a->b.length=a.length
 | [],[],_=>rfl
 | _::_,_::_,h=>by simp[iE.length h.2]
theorem Sl.Rel.keep {x:Sl D}{v:Value}(h:x.Rel S M w g v)(k:Keeps M w M' w')(m:More g g'):x.Rel S M' w' g' v:=by
 cases x with
 | one x=>exact Sv.Rel.keep h k m
 | wU c=>obtain⟨a,rfl,b⟩:=h;exact⟨a,rfl,b.keep k m⟩
theorem dF.cell {d:D}{a:Addr}{n z i j:Nat}(h:dF S M w d (.slice (some a) n z))(hi:i < S.len d)(hj:j < S.size d):
  ∃u,w.cell? (a.add (i*S.size d+j))=some u/\(S.cell d i j).Rel S M w g u:=by
 classical
 let r:World:={w with heap:=(Array.range w.heap.size).map fun b=>if M b then Obj.map #[] 0 else(w.heap[b]?).getD (Obj.map #[] 0)}
 have B:∀b,b < w.heap.size->¬M b->r.heap[b]? =w.heap[b]? :=by
  grind
 have A:∀p:Addr,(r.cell? p).isSome=true->p.block < w.heap.size/\¬M p.block:=by
  intro p J;simp only[World.cell?,r]at J
  grind
 have q:∀w':World,(∀b,b < w.heap.size->¬M b->w'.heap[b]? =w.heap[b]?)->∃u,w'.cell? (a.add (i*S.size d+j))=some u/\Lf.plain (S.cell d i j) u/\∀t,S.cell d i j= .dat t->Fp S w' t u:=by
  intro w' y;generalize Y:Value.slice (some a) n z=v at h;have T:=h w' y;cases T with
  | mp d m v E hl hz h=>omega
  | mk d X a' Q U L R F c O=>
   grind
 obtain⟨Z,C,_⟩:=q r B;obtain⟨H,E⟩:=A _ (by rw[C];rfl);obtain⟨u,P,c,W⟩:=q w (fun _ _ _=>rfl);refine⟨u,P,?_⟩;generalize hx:S.cell d i j=x at*;cases x with
 | val x=>exact c
 | bool b=>exact c
 | int k n=>exact c
 | str s=>exact c
 | dat t=>
  intro w' y;obtain⟨K,V,_,N⟩:=q w' y;have:K=u:=by
   have e:w'.cell? (a.add (i*S.size d+j))=w.cell? (a.add (i*S.size d+j)):=by
    simp only[World.cell?,y _ H E]
   grind
  grind
 | any=>exact c.elim
 | ptr l o=>exact c.elim
 | elt t i' j'=>exact c.elim
 | fn f I=>exact c.elim
 | own l=>exact c.elim
 | opt l i j G=>exact c.elim
 | unk p=>exact c.elim
 | part l i j G f=>exact c.elim
 | glb i=>exact c.elim
 | Tz x=>exact c
 | xt e=>exact c.elim
theorem dF.slice {d:D}{v:Value}(h:dF S M w d v)(o:0 < S.size d):∃a b,v= .slice a (S.len d) b/\S.len d<=b:=by
 have i:=h w (fun _ _ _=>rfl);cases i with
 | mp d m v n p k h=>omega
 | mk d l a b U e f c j g=>grind
theorem dF.slice' {d:D}{v:Value}(h:dF S M w d v)(o:S.mp d=none):∃a b,v= .slice a (S.len d) b/\S.len d<=b:=by
 have i:=h w (fun _ _ _=>rfl);cases i with
 | mp d m v n p k h=>grind
 | mk d l a b U e f c j g=>grind
theorem dF.form {d:D}{v:Value}(h:dF S M w d v):(∃a c,v= .slice a (S.len d) c)\/∃r,v= .map r:=by
 have j:=h w (fun _ _ _=>rfl);cases j with
 | mp d m v o p l h=>rcases h.2 with⟨h,_⟩ | ⟨b,_,_,h,_⟩<;>exact .inr ⟨_,h⟩
 | mk d n a c U f g e k i=>grind
theorem dF.map {d:D}{v:Value}{m:Mp D}(h:dF S M w d v)(o:S.mp d=some m):ayj w m.agg m.kvs v:=by
 have g:=h w (fun _ _ _=>rfl);cases g with
 | mp d q v j p l h=>grind
 | mk d n a i U c e b k f=>grind
theorem dF.amN {d:D}{v:Value}(h:dF S M w d v):S.len d<=9223372036854775807:=by
 have f:=h w (fun _ _ _=>rfl);cases f with
 | mp d m v l o n h=>omega
 | mk d j a i U e b c k g=>exact b
theorem dF.DN {d:D}{a:Option Addr}{n b i:Nat}(h:dF S M w d (.slice a n b))(x:i < S.len d)(u:0 < S.size d):∃e,a=some e:=by
 generalize q:Value.slice a n b=v at h;have l:=h w (fun _ _ _=>rfl);cases l with
 | mp d m v y t s h=>omega
 | mk d o r j U f k c p g=>
  grind
end
end Go.Vc
namespace Go.Vc
open Go.RowKit
def upd {a:Type}(f:Nat->a)(k:Nat)(v:a):Nat->a:=fun n=>if n=k then v else f n
theorem upd_same {a:Type}(f:Nat->a)(k:Nat)(v:a):upd f k v k=v:=by simp[upd]
theorem bU {a:Type}(f:Nat->a)(k n:Nat)(v:a)(h:n≠k):upd f k v n=f n:=by simp[upd,h]
def eH:Value->Option Nat
 | .pointer (some a)=>some a.block
 | .slice (some a) _ _=>some a.block
 | .map (some r)=>some r
 | _=>none
def isRef:Value->Bool
 | .pointer _ | .slice _ _ _ | .map _=>true
 | _=>false
structure Bs where
 w:World
 X:Nat->Prop
def Bs.Mine (B:Bs)(b:Nat):Prop:=B.w.heap.size<=b\/B.X b
structure BH (B:Bs)(w':World):Prop where
 os:w'.os=B.w.os
 tape:w'.tape=B.w.tape
 output:w'.output=B.w.output
 size:B.w.heap.size<=w'.heap.size
 block:∀k,k < B.w.heap.size->¬B.X k->w'.heap[k]? =B.w.heap[k]?
theorem BH.refl (B:Bs):BH B B.w:=⟨rfl,rfl,rfl,rC _,fun _ _ _=>rfl⟩
theorem BH.grow {B:Bs}{w a:World}(h:BH B w)(k:Below w.heap.size w a):BH B a:=
 ⟨k.os.trans h.os,k.tape.trans h.tape,k.output.trans h.output,KF h.size k.size,fun i b c=>(k.block i (Qce b h.size)).trans (h.block i b c)⟩
def hot {D:Type}:Option (Bk D)->Bool
 | some (.cells _)=>true
 | some (.row _ _)=>true
 | some (.iter _ _)=>true
 | some (.map _)=>true
 | some (.tc _ _)=>true
 | _=>false
def aB2 (w:World)(b:Nat)(t:TypeId)(a:List Value):Prop:=
 ∃u0,w.heap[b]? =some (.cells (List.toArray (u0::a)) t (0,0))/\(u0= .pointer none\/u0= .pointer (some ⟨b,0,none⟩))
theorem aB2.same {w c:World}{b:Nat}{t:TypeId}{a:List Value}(h:aB2 w b t a)(e:c.heap[b]? =w.heap[b]?):aB2 c b t a:=by
 obtain⟨u0,f,d⟩:=h;exact⟨u0,e.trans f,d⟩
def zS {D:Type}(S:Sh D)(M:Nat->Prop)(w:World)(g:Nat->Option Value)(B:Bs):Bk D->Value->Prop
 | .cells cs,v=>∃b a t,v= .pointer (some ⟨b,0,none⟩)/\B.Mine b/\w.heap[b]? =some (.cells (List.toArray a) t (0,0))/\bf S M w g cs a
 | .xZ d,v=>dF S M w d v
 | .iter s p,v=>s.length<=9223372036854775807/\∃b,v= .pointer (some ⟨b,0,none⟩)/\B.Mine b/\w.heap[b]? =some (.stringIter ⟨s.toArray⟩ p)
 | .map d,v=>∃m b f n,S.mp d=some m/\(∀p∈m.kvs,p.1.fits/\∀x∈p.2,x.fits)/\v= .map (some b)/\B.Mine b/\w.heap[b]? =some (.map f n)/\f.toList.map (fun e=>(e.key,e.val))=m.kvs.map fun p=>(p.1.val,uq m.agg p.2)
 | .tc t cs,v=>∃b a,v= .pointer (some ⟨b,0,none⟩)/\B.Mine b/\aB2 w b t a/\bf S M w g cs a
 | .row e d,v=>((∀b,eH v=some b->B.Mine b)/\S.len d<=9223372036854775807/\S.mp d=none)/\∃c,w.ownsRow 0 e (S.size d) v (S.len d) c/\
   ∀i j,i < S.len d->j < S.size d->∃u,c[i*S.size d+j]? =some u/\(S.cell d i j).jY=true/\(S.cell d i j).Rel S M w g u
def aY {D:Type}(N:Nat->Prop)(a:Nat->Option (Bk D))(g:Nat->Option Value):Nat->Prop:=
 fun b=>N b\/∃l v,hot (a l)=true/\g l=some v/\eH v=some b
structure Hp {D:Type}(S:Sh D)(w0:Bs)(N:Nat->Prop)(blk:Nat->Option (Bk D))(g:Nat->Option Value)(al:Nat->Prop)(w:World):Prop where
 below:BH w0 w
 hN:∀b,N b->b < w0.w.heap.size/\¬w0.X b
 dD:∀l bk,blk l=some bk->∃v,g l=some v/\zS S (aY N blk g) w g w0 bk v
 sep:∀l l' v v' b,hot (blk l)=true->hot (blk l')=true->g l=some v->g l'=some v'->eH v=some b->eH v'=some b->l=l'
 al:∀l v,g l=some v->al l
 refs:∀l v,g l=some v->isRef v=true
 gl:afD S (aY N blk g) w
section
variable {D:Type}{S:Sh D}{M M' N:Nat->Prop}{w w':World}{w0:Bs}{g g':Nat->Option Value}{blk:Nat->Option (Bk D)}{al:Nat->Prop}{B:Bs}
theorem Ui {w:World}{b:Nat}{o:Obj}(h:w.heap[b]? =some o):b < w.heap.size:=by
 grind
theorem zS.lt {j:Bk D}{v:Value}{b:Nat}(h:zS S M w g B j v)(c:hot (some j)=true)(a:eH v=some b):b < w.heap.size/\B.Mine b:=by
 cases j with
 | cells cs=>
  obtain⟨i,k,t,rfl,f,c,_⟩:=h;simp only[eH,TC]at a
  grind
 | row e d=>
  obtain⟨l,r,⟨_,h⟩,_⟩:=h;rcases h with⟨rfl,_⟩ | ⟨g',o,q,rfl,f,c,_⟩
  ·simp[eH]at a
  ·have:=l.1 b a;simp only[eH,TC]at a
   grind
 | xZ d=>simp[hot]at c
 | iter s p=>
  obtain⟨_,i,rfl,f,c⟩:=h;simp only[eH,TC]at a
  grind
 | map d=>
  obtain⟨m,i,u,n,_,_,rfl,f,c,_⟩:=h;simp only[eH,TC]at a
  grind
 | tc t cs=>
  obtain⟨i,k,rfl,f,⟨u0,c,_⟩,_⟩:=h;simp only[eH,TC]at a
  grind
theorem zS.isRef {f:Bk D}{v:Value}(h:zS S M w g B f v):isRef v=true:=by
 cases f with
 | cells cs=>obtain⟨b,i,t,rfl,_⟩:=h;rfl
 | row e d=>
  obtain⟨_,k,⟨_,h⟩,_⟩:=h;rcases h with⟨rfl,_⟩ | ⟨g',c,j,rfl,_⟩<;>rfl
 | xZ d=>
  rcases dF.form h with⟨a,c,rfl⟩ | ⟨r,rfl⟩<;>rfl
 | iter s p=>obtain⟨_,b,rfl,_⟩:=h;rfl
 | map d=>obtain⟨m,b,l,n,_,_,rfl,_⟩:=h;rfl
 | tc t cs=>obtain⟨b,i,rfl,_⟩:=h;rfl
theorem zS.keep {q:Bk D}{v:Value}(h:zS S M w g B q v)(k:Keeps M w M' w')(m:More g g')(f:hot (some q)=true->∀b,eH v=some b->w'.heap[b]? =w.heap[b]?):zS S M' w' g' B q v:=by
 cases q with
 | cells cs=>
  obtain⟨b,x,t,rfl,c,a,l⟩:=h;exact⟨b,x,t,rfl,c,(f rfl b rfl).trans a,l.keep k m⟩
 | row e d=>
  obtain⟨y,G,⟨r,h⟩,K⟩:=h;refine⟨y,G,⟨r,?_⟩,fun i j L C=> ?_⟩
  ·rcases h with h | ⟨g',z,A,rfl,c,a,o⟩
   ·exact .inl h
   ·exact .inr ⟨g',z,A,rfl,c,(f rfl g' rfl).trans a,o⟩
  ·obtain⟨u,H,E,J⟩:=K i j L C;exact⟨u,H,E,J.keep k m⟩
 | xZ d=>exact dF.keep h k
 | iter s p=>
  obtain⟨r,b,rfl,c,a⟩:=h;exact⟨r,b,rfl,c,(f rfl b rfl).trans a⟩
 | map d=>
  obtain⟨m,b,I,n,y,F,rfl,c,a,l⟩:=h;exact⟨m,b,I,n,y,F,rfl,c,(f rfl b rfl).trans a,l⟩
 | tc t cs=>
  obtain⟨b,x,rfl,c,a,l⟩:=h;exact⟨b,x,rfl,c,a.same (f rfl b rfl),l.keep k m⟩
theorem kN {x:Option (Bk D)}(h:hot x=true):∃a,x=some a/\hot (some a)=true:=by
 cases x with
 | none=>simp[hot]at h
 | some a=>grind
theorem Keeps.refl (M:Nat->Prop)(w:World):Keeps M w M w:=⟨rC _,fun _ _ h=>⟨h,rfl⟩⟩
theorem Hp.at (h:Hp S w0 N blk g al w){l:Nat}{v:Value}(c:hot (blk l)=true)(f:g l=some v):∃a,blk l=some a/\hot (some a)=true/\zS S (aY N blk g) w g w0 a v:=by
 obtain⟨a,b,i⟩:=kN c;obtain⟨j,e,d⟩:=h.dD l a b
 grind
theorem Hp.mlt (h:Hp S w0 N blk g al w){b:Nat}(a:aY N blk g b):b < w.heap.size:=by
 rcases a with a | ⟨l,v,i,e,d⟩
 ·exact Qce (h.hN b a).1 h.below.size
 ·obtain⟨j,_,f,c⟩:=h.at i e;exact(c.lt f d).1
theorem Hp.grow (h:Hp S w0 N blk g al w)(a:Below w.heap.size w w'):Hp S w0 N blk g al w'/\Keeps (aY N blk g) w (aY N blk g) w':=by
 have d:Keeps (aY N blk g) w (aY N blk g) w':=⟨a.size,fun b e k=>⟨k,a.block b e⟩⟩;refine⟨⟨h.below.grow a,h.hN,fun l n m=> ?_,h.sep,h.al,h.refs,h.gl.keep d⟩,d⟩;obtain⟨v,i,c⟩:=h.dD l n m;exact⟨v,i,c.keep d (More.refl _) fun j b f=>a.block b (c.lt j f).1⟩
theorem Hp.add (h:Hp S w0 N blk g al w)(z:Below w.heap.size w w'){l:Nat}{bk:Bk D}{v:Value}(V:¬al l)(Y:∀b,eH v=some b->w.heap.size<=b)
  (G:∀H,Keeps (aY N blk g) w H w'->(∀c,H c->aY N blk g c\/eH v=some c)->zS S H w' (upd g l (some v)) w0 bk v):
  Hp S w0 N (upd blk l (some bk)) (upd g l (some v)) (fun n=>al n\/n=l) w'/\Keeps (aY N blk g) w (aY N (upd blk l (some bk)) (upd g l (some v))) w'/\More g (upd g l (some v)):=by
 have X:g l=none:=by
  cases U:g l with
  | none=>rfl
  | some u=>exact absurd (h.al l u U) V
 have W:blk l=none:=by
  cases R:blk l with
  | none=>rfl
  | some t=>
   obtain⟨u,O,_⟩:=h.dD l t R
   grind
 have P:More g (upd g l (some v)):=fun n u e=>by
  rw[bU _ _ _ _ qg];exact e
 have y:Keeps (aY N blk g) w (aY N (upd blk l (some bk)) (upd g l (some v))) w':=by
  refine⟨z.size,fun b J A=>⟨?_,z.block b J⟩⟩;rintro(q | ⟨k,u,i,f,x⟩)
  ·exact A (.inl q)
  ·by_cases d:k=l
   ·subst d;rw[upd_same]at f
    grind
   ·rw[bU _ _ _ _ d]at i f;exact A (.inr ⟨k,u,i,f,x⟩)
 have F:∀c,aY N (upd blk l (some bk)) (upd g l (some v)) c->aY N blk g c\/eH v=some c:=by
  rintro c (q | ⟨k,u,i,f,x⟩)
  ·exact .inl (.inl q)
  ·by_cases d:k=l
   ·subst d;rw[upd_same]at f
    grind
   ·rw[bU _ _ _ _ d]at i f;exact .inl (.inr ⟨k,u,i,f,x⟩)
 refine⟨⟨h.below.grow z,h.hN,fun k t j=> ?_,?_,?_,?_,h.gl.keep y⟩,y,P⟩
 ·by_cases d:k=l
  ·subst d;rw[upd_same]at j;injection j with j
   subst j;exact⟨v,upd_same _ _ _,G _ y F⟩
  ·rw[bU _ _ _ _ d]at j⊢;obtain⟨u,O,Q⟩:=h.dD k t j;exact⟨u,O,Q.keep y P fun T b L=>z.block b (Q.lt T L).1⟩
 ·intro a b K M c I r p o C B;have E:∀n u c,n≠l->hot (upd blk l (some bk) n)=true->upd g l (some v) n=some u->eH u=some c->c < w.heap.size:=by
   intro n u c e i f x;rw[bU _ _ _ _ e]at i f;exact h.mlt (.inr ⟨n,u,i,f,x⟩)
  by_cases m:a=l
  ·by_cases s:b=l
   ·rw[m,s]
   ·have i:=E b M c s r o B;subst m;rw[upd_same]at p
    grind
  ·by_cases s:b=l
   ·have i:=E a K c m I p C;subst s;rw[upd_same]at o
    grind
   ·rw[bU _ _ _ _ m]at I p;rw[bU _ _ _ _ s]at r o;exact h.sep a b K M c I r p o C B
 ·intro n u e;by_cases d:n=l
  ·exact .inr d
  ·rw[bU _ _ _ _ d]at e;exact .inl (h.al n u e)
 ·intro n u e;by_cases d:n=l
  ·subst d;rw[upd_same]at e;injection e with e
   subst e;exact(G _ y F).isRef
  ·rw[bU _ _ _ _ d]at e;exact h.refs n u e
theorem Hp.write (h:Hp S w0 N blk g al w){l b:Nat}{t bk':Bk D}{v:Value}(L:blk l=some t)(E:hot (some t)=true)(I:hot (some bk')=true)(x:g l=some v)(r:eH v=some b)
  (O:w'.os=w.os) (F:w'.tape=w.tape) (y:w'.output=w.output) (p:w'.heap.size=w.heap.size) (f:∀n,n≠b->w'.heap[n]? =w.heap[n]?)
  (W:Keeps (aY N blk g) w (aY N blk g) w'->zS S (aY N blk g) w' g w0 bk' v):
  Hp S w0 N (upd blk l (some bk')) g al w'/\Keeps (aY N blk g) w (aY N (upd blk l (some bk')) g) w':=by
 have i:∀n,hot (upd blk l (some bk') n)=hot (blk n):=by
  intro n;by_cases m:n=l
  ·subst m;simp[upd_same,L,E,I]
  ·rw[bU _ _ _ _ m]
 have s:aY N (upd blk l (some bk')) g=aY N blk g:=by
  funext c;simp only[aY,i]
 have B:aY N blk g b:= .inr ⟨l,v,by grind,x,r⟩;obtain⟨X,j,G⟩:=h.dD l t L;rw[x]at j;injection j with j
 subst j;have Q:=(G.lt E r).2;have z:Keeps (aY N blk g) w (aY N blk g) w':=⟨Qdo p.symm,fun c _ q=>⟨q,f c (fun e=>q (e▸B))⟩⟩;refine⟨⟨⟨O.trans h.below.os,F.trans h.below.tape,y.trans h.below.output,p▸h.below.size,fun k M C=>(f k ?_).trans (h.below.block k M C)⟩,h.hN,?_,?_,h.al,h.refs,by rw[s];exact h.gl.keep z⟩,s▸z⟩
 ·rintro rfl;rcases Q with K | K
  ·omega
  ·exact C K
 ·intro n H A;rw[s];by_cases m:n=l
  ·subst m;rw[upd_same]at A
   grind
  ·rw[bU _ _ _ _ m]at A;obtain⟨u,J,U⟩:=h.dD n H A;refine⟨u,J,U.keep z (More.refl _) fun V c o=>f c ?_⟩;rintro rfl;exact m (h.sep n l u v c qg qg J x o r)
 ·intro a c R T d P o;rw[i]at P o;exact h.sep a c R T d P o
theorem Hp.aJs (h:Hp S w0 N blk g al w)(l:Nat)(x:Option (Bk D))(r:hot x=false)(o:∀i,x=some i->∃v,g l=some v/\zS S (aY N (upd blk l x) g) w g w0 i v):
  Hp S w0 N (upd blk l x) g al w/\Keeps (aY N blk g) w (aY N (upd blk l x) g) w:=by
 have f:∀n,hot (upd blk l x n)=true->hot (blk n)=true:=by
  intro n e;by_cases m:n=l
  ·subst m;rw[upd_same,r]at e;cases e
  ·rwa [bU _ _ _ _ m]at e
 have k:Keeps (aY N blk g) w (aY N (upd blk l x) g) w:=by
  refine⟨rC _,fun b _ p=>⟨?_,rfl⟩⟩;rintro(e | ⟨n,u,y,s,z⟩)
  ·exact p (.inl e)
  ·exact p (.inr ⟨n,u,f n y,s,z⟩)
 refine⟨⟨h.below,h.hN,fun n i e=> ?_,fun a c q C d B A=>h.sep a c q C d (f a B) (f c A),h.al,h.refs,h.gl.keep k⟩,k⟩;by_cases j:n=l
 ·subst j;rw[upd_same]at e;exact o i e
 ·rw[bU _ _ _ _ j]at e;obtain⟨u,t,E⟩:=h.dD n i e;exact⟨u,t,E.keep k (More.refl _) fun _ _ _=>rfl⟩
theorem Hp.move (h:Hp S w0 N blk g al w){l fr:Nat}{bk':Bk D}{v v':Value}(B:hot (blk l)=true)(r:g l=some v)(ab:¬al fr)
  (hos:w'.os=w.os) (Y:w'.tape=w.tape) (M:w'.output=w.output) (G:w.heap.size<=w'.heap.size) (j:∀n,n < w.heap.size->eH v≠some n->w'.heap[n]? =w.heap[n]?)
  (ac:∀b,eH v'=some b->eH v=some b\/w.heap.size<=b)
  (I:∀J,Keeps (aY N blk g) w J w'->(∀c,J c->aY N blk g c\/eH v'=some c)->zS S J w' (upd g fr (some v')) w0 bk' v'):
  Hp S w0 N (upd (upd blk l none) fr (some bk')) (upd g fr (some v')) (fun n=>al n\/n=fr) w'/\Keeps (aY N blk g) w (aY N (upd (upd blk l none) fr (some bk')) (upd g fr (some v'))) w'/\More g (upd g fr (some v')):=by
 have hgl:g fr=none:=by
  cases r:g fr with
  | none=>rfl
  | some u=>exact absurd (h.al fr u r) ab
 have hm:More g (upd g fr (some v')):=fun n u d=>by
  rw[bU _ _ _ _ qg];exact d
 have m:∀n,n≠fr->hot (upd (upd blk l none) fr (some bk') n)=true->n≠l/\hot (blk n)=true:=by
  intro n d i;rw[bU _ _ _ _ d]at i;by_cases f:n=l
  ·subst f;rw[upd_same]at i;simp[hot]at i
  ·rw[bU _ _ _ _ f]at i
   grind
 have F:∀c,aY N (upd (upd blk l none) fr (some bk')) (upd g fr (some v')) c->aY N blk g c\/eH v'=some c:=by
  rintro c (T | ⟨O,u,i,o,C⟩)
  ·exact .inl (.inl T)
  ·by_cases f:O=fr
   ·subst f;rw[upd_same]at o
    grind
   ·have W:=(m O f i).2;rw[bU _ _ _ _ f]at o;exact .inl (.inr ⟨O,u,W,o,C⟩)
 have aa:∀b,eH v=some b->aY N blk g b:=fun b A=> .inr ⟨l,v,B,r,A⟩
 have y:Keeps (aY N blk g) w (aY N (upd (upd blk l none) fr (some bk')) (upd g fr (some v'))) w':=by
  refine⟨G,fun b Q R=>⟨fun A=> ?_,j b Q fun e=>R (aa b e)⟩⟩
  grind
 have JK:∀b,eH v=some b->w0.Mine b:=fun b A=>by
  obtain⟨bk,_,L,K⟩:=h.at B r;exact(K.lt L A).2
 refine⟨⟨⟨hos.trans h.below.os,Y.trans h.below.tape,M.trans h.below.output,KF h.below.size G,fun k H X=>(j k (Qce H h.below.size) ?_).trans (h.below.block k H X)⟩,h.hN,fun n Z d=> ?_,?_,?_,?_,h.gl.keep y⟩,y,hm⟩
 ·intro e;rcases JK k e with i | i
  ·omega
  ·exact X i
 ·by_cases f:n=fr
  ·subst f;rw[upd_same]at d;injection d with d
   subst d;exact⟨v',upd_same _ _ _,I _ y F⟩
  ·rw[bU _ _ _ _ f]at d⊢;have q:n≠l:=by rintro rfl;rw[upd_same]at d;cases d
   rw[bU _ _ _ _ q]at d;obtain⟨u,hu,ZI⟩:=h.dD n Z d;refine⟨u,hu,ZI.keep y hm fun L b E=>j b (ZI.lt L E).1 fun e=> ?_⟩;exact q (h.sep n l u v b qg B hu r E e)
 ·have old:∀n u c,n≠fr->hot (upd (upd blk l none) fr (some bk') n)=true->upd g fr (some v') n=some u->eH u=some c->eH v'=some c->False:=by
   intro n u c d i o C h4;obtain⟨q,i⟩:=m n d i;rw[bU _ _ _ _ d]at o;rcases ac c h4 with h5 | h5
   ·exact q (h.sep n l u v c i B o r C h5)
   ·have:=h.mlt (.inr ⟨n,u,i,o,C⟩);omega
  intro a b va vb c P s z t V U;by_cases p:a=fr
  ·by_cases x:b=fr
   ·rw[p,x]
   ·subst p;rw[upd_same]at z
    grind
  ·by_cases x:b=fr
   ·subst x;rw[upd_same]at t
    grind
   ·have P:=(m a p P).2;have s:=(m b x s).2;rw[bU _ _ _ _ p]at z;rw[bU _ _ _ _ x]at t;exact h.sep a b va vb c P s z t V U
 ·intro n u d;by_cases f:n=fr
  ·exact .inr f
  ·rw[bU _ _ _ _ f]at d;exact .inl (h.al n u d)
 ·intro n u d;by_cases f:n=fr
  ·subst f;rw[upd_same]at d;injection d with d
   subst d;exact(I _ y F).isRef
  ·rw[bU _ _ _ _ f]at d;exact h.refs n u d
end
end Go.Vc
namespace Go.Vc
open Go.RowKit
structure Ty where
 kind:Nat
 agg:Bool
 size:Nat
 bytes:Nat
 zero:List Value
 amQ:List (Nat×Nat×Bool)
 elem:Option TypeId
 eqs:List Nat
 lit:Bool
 arr:Option (TypeId×Nat)
 zag:Bool
 mp:Option (TypeId×TypeId)
def JV (P:Program)(t:TypeId):Bool:=
 match P.underlying t with
 | some (.struct _)=>true
 | some (.array _ _)=>true
 | _=>false
def uQ:IntKind->Nat
 | .i8=>20
 | .i16=>21
 | .i32=>22
 | .i64=>23
 | .u8=>24
 | .u16=>25
 | .u32=>26
 | .u64=>27
def ar5:Nat->Option IntKind
 | 20=>some .i8
 | 21=>some .i16
 | 22=>some .i32
 | 23=>some .i64
 | 24=>some .u8
 | 25=>some .u16
 | 26=>some .u32
 | 27=>some .u64
 | _=>none
@[simp] theorem aI4 (k:IntKind):(uQ k=1)=False:=by cases k<;>simp[uQ]
@[simp] theorem aI9 (k:IntKind):(uQ k=3)=False:=by cases k<;>simp[uQ]
@[simp] theorem aJf (k:IntKind):(uQ k=4)=False:=by cases k<;>simp[uQ]
@[simp] theorem aI6 (k:IntKind):(uQ k=5)=False:=by cases k<;>simp[uQ]
def kindOf:TypeDesc->Nat
 | .bool=>1
 | .int k=>uQ k
 | .string=>3
 | .slice _=>4
 | .struct _=>5
 | .pointer _=>6
 | .func _ _ _=>7
 | _=>0
def cellsIn (P:Program)(t:TypeId):Nat:=if (P.underlying t).isSome then P.cellsOf t else 0
def Qp (P:Program):TypeDesc->List (Nat×Nat×Bool)
 | .struct a=>a.toList.map fun f=>(f.offset,cellsIn P f.type,JV P f.type)
 | _=>[]
def akh:TypeDesc->Option TypeId
 | .slice e=>some e
 | _=>none
def VZ (P:Program)(t:TypeId):Option Nat:=
 match P.underlying t with
 | some .bool=>some 1
 | some (.int _)=>some 2
 | some .string=>some 3
 | _=>none
def eqFields (P:Program):Nat->List Field->Option (List Nat)
 | _,[]=>some []
 | i,f::r=>
  match VZ P f.type,eqFields P (i+1) r with
  | some k,some ks=>if Nat.beq f.offset i && !(f.name== "_") && Nat.beq (cellsIn P f.type) 1 then some (k::ks)else none
  | _,_=>none
def ahP (P:Program)(t:TypeId):TypeDesc->List Nat
 | .struct a=>if P.stoodInHeld t || P.eqGuardType P.depth t then[]else(match eqFields P 0 a.toList with
  | some ks=>ks
  | none=>[])
 | .array n e=>if P.eqGuardType P.depth t then[]else(match VZ P e,P.info? e with
  | some k,some i=>if Nat.beq i.size 1 then List.replicate n k else[]
  | _,_=>[])
 | _=>[]
def atf:TypeDesc->Option (TypeId×Nat)
 | .array n e=>some (e,n)
 | _=>none
def Bj:Value->Bool
 | .agg _=>true
 | _=>false
def ano:TypeDesc->Option (TypeId×TypeId)
 | .map k v=>some (k,v)
 | .pointer e=>some (e,e)
 | _=>none
def aqU (P:Program)(t:TypeId):Option Ty:=
 match P.info? t,P.underlying t with
 | some i,some d=>
  match i.zero with
  | some z=>some ⟨kindOf d,JV P t,i.size,i.bytes,z.cells.toList,Qp P d,akh d,ahP P t d,false,atf d,Bj z,ano d⟩
  | none=>none
 | _,_=>none
def eP (P:Program)(t:TypeId)(a:Ty):Prop:=aqU P t=some {a with lit:=false}
def FX:IntKind->Int->Prop
 | .i8,n=> -128<=n/\n<=127
 | .i16,n=> -32768<=n/\n<=32767
 | .i32,n=> -2147483648<=n/\n<=2147483647
 | .i64,n=> -9223372036854775808<=n/\n<=9223372036854775807
 | .u8,n=>0<=n/\n<=255
 | .u16,n=>0<=n/\n<=65535
 | .u32,n=>0<=n/\n<=4294967295
 | .u64,n=>0<=n/\n<=18446744073709551615
theorem wrap_in {k:IntKind}{n:Int}(h:FX k n):k.wrap n=n:=by
 cases k<;>simp only[FX]at h<;>simp[IntKind.wrap,IntKind.bits,IntKind.signed]<;>omega
def bJ (k:IntKind)(n:Int):Int:=k.wrap n
theorem bY {k:IntKind}{n:Int}(h:FX k n):bJ k n=n:=wrap_in h
def uF (k:IntKind)(x y:Int):Int:=k.wrap (BitVec.ofInt k.bits x &&& BitVec.ofInt k.bits y).toNat
def orI (k:IntKind)(x y:Int):Int:=k.wrap (BitVec.ofInt k.bits x ||| BitVec.ofInt k.bits y).toNat
def TE (k:IntKind)(x y:Int):Int:=k.wrap (BitVec.ofInt k.bits x ^^^ BitVec.ofInt k.bits y).toNat
def aGM (k:IntKind)(x y:Int):Int:=k.wrap (BitVec.ofInt k.bits x &&& ~~~BitVec.ofInt k.bits y).toNat
def WZ (k:IntKind)(x y:Int):Int:=k.wrap (x*2 ^ (min y.toNat k.bits))
def BD (k:IntKind)(x y:Int):Int:=x.fdiv (2 ^ (min y.toNat k.bits))
def kEq:IntKind->IntKind->Bool:=fun a b=>a==b
def Pv.beq:Pv->Pv->Bool
 | .bool a, .bool b=>a==b
 | .int k a, .int c b=>kEq k c && a==b
 | .str a, .str b=>a==b
 | _,_=>false
def Pv.kind:Pv->Nat
 | .bool _=>1
 | .int k _=>uQ k
 | .str _=>3
def Pv.lf {D:Type}:Pv->Lf D
 | .bool b=> .bool b
 | .int k n=> .int k n
 | .str s=> .str s
def AU {V:Type}(k:Pv):List (Pv×V)->Option V
 | []=>none
 | p::r=>if Pv.beq k p.1 then some p.2 else AU k r
def OD {V:Type}(k:Pv)(v:V):List (Pv×V)->List (Pv×V)
 | []=>[(k,v)]
 | p::r=>if Pv.beq k p.1 then(p.1,v)::r else p::OD k v r
structure aB1 {D:Type}(S:Sh D)(m:Mp D):Prop where
 keys:∀p∈m.kvs,p.1.kind=m.kind
 has:∀k:Pv,k.kind=m.kind->m.has k=(AU k m.kvs).isSome
 get:∀k:Pv,k.kind=m.kind->m.get k=((AU k m.kvs).getD m.zero).map Pv.lf
 put:∀k vs,k.kind=m.kind->vs.map Pv.kind=m.zero.map Pv.kind->∃m',S.mp (m.put k vs)=some m'/\m'.kvs=OD k vs m.kvs/\m'.agg=m.agg
 len:m.len=m.kvs.length
def tN:Option Prop->Prop
 | none=>True
 | some p=>p
structure DP where
 p:Prop
 b:Bool
 h:b=true->p
@[reducible] def dp (p:Prop) [d:Decidable p]:DP:=⟨p,decide p,EU⟩
@[reducible] def dq (p:Prop):DP:=⟨p,false,fun e=>nomatch e⟩
def nH:Option DP->Prop
 | none=>True
 | some q=>q.p
theorem Gj {o:Option Prop}:nH (o.map dq) ↔ tN o:=by cases o<;>exact Iff.rfl
structure Out (D:Type) where
 pre:Option DP
 val:Sl D
 blks:List (Nat×Option (Bk D))
abbrev Ct (D:Type):=List (Sl D)->List (Bk D)->Option (Option DP×Sl D×List (Nat×Bk D)×List Nat)
def D8 {D:Type}:Value->Lf D
 | .int k n=> .int k n
 | .string s=>if Nat.ble s.data.size 9223372036854775807 then .str s.data.toList else .val (.string s)
 | .nilIface=> .Tz none
 | v=> .val v
def aCz {D:Type}:Value->Sl D
 | .agg cs=> .one (.agg (cs.toList.map D8))
 | v=> .one (.lf (D8 v))
def bOf {D:Type}:Sl D->Option Bool
 | .one (.lf (.bool b))=>some b
 | .one (.lf (.val (.bool b)))=>some b
 | _=>none
def Lf.norm {D:Type}:Lf D->Lf D
 | .val (.bool b)=> .bool b
 | x=>x
def Sv.norm {D:Type}:Sv D->Sv D
 | .lf x=> .lf x.norm
 | .agg a=> .agg (a.map Lf.norm)
def Sl.norm {D:Type}:Sl D->Sl D
 | .one x=> .one x.norm
 | .wU a=> .wU (a.map Sv.norm)
def aG {D:Type}(a:Nat->Sl D):Operand->Sl D
 | .tmp t=>a t
 | .const v=>aCz v
 | .func f=> .one (.lf (.fn f []))
 | .global i=> .one (.lf (.glb i))
def Sv.cells {D:Type}:Sv D->List (Lf D)
 | .lf x=>[x]
 | .agg a=>a
def putAt {D:Type}(cs:List (Lf D))(o:Nat)(a:List (Lf D)):List (Lf D):=cs.take o++(a++cs.drop (o+a.length))
def Lf.storable {D:Type}:Lf D->Bool
 | .any=>false
 | .val (.agg _)=>false
 | .val (.tuple _)=>false
 | _=>true
def Sv.whole {D:Type}:Sv D->Bool
 | .lf x=>x.storable
 | .agg _=>true
def z_ {c:Type}:Option c->Option c->Option c
 | some a,_=>some a
 | none,b=>b
section
variable {D:Type}
def mM (a:Option DP)(x:Lf D):Option (Out D):=some ⟨a, .one (.lf x),[]⟩
def aHc (c:BinOp)(k:IntKind)(a b:Int):Option (Out D):=
 match c with
 | .add=>mM none (.int k (bJ k (a+b)))
 | .sub=>mM none (.int k (bJ k (a - b)))
 | .mul=>mM none (.int k (bJ k (a*b)))
 | .and=>mM none (.int k (uF k a b))
 | .or=>mM none (.int k (orI k a b))
 | .xor=>mM none (.int k (TE k a b))
 | .andNot=>mM none (.int k (aGM k a b))
 | .quo=>mM (some (dp (b≠0))) (.int k (bJ k (a.tdiv b)))
 | .rem=>mM (some (dp (b≠0))) (.int k (a.tmod b))
 | .eql=>mM none (.bool (a==b))
 | .neq=>mM none (.bool (a !=b))
 | .lss=>mM none (.bool (decide (a < b)))
 | .leq=>mM none (.bool (decide (a<=b)))
 | .gtr=>mM none (.bool (decide (b < a)))
 | .geq=>mM none (.bool (decide (b<=a)))
 | _=>none
def aJe (k:IntKind)(a b:Int):Option (Out D):=mM (some (dp (0<=b))) (.int k (WZ k a b))
def aJk (k:IntKind)(a b:Int):Option (Out D):=mM (some (dp (0<=b))) (.int k (BD k a b))
def aH9 (c:BinOp)(a b:List UInt8):Option (Out D):=
 match c with
 | .eql=>mM none (.bool (a==b))
 | .neq=>mM none (.bool (a !=b))
 | .lss=>mM none (.bool (Op.bytesLess a b))
 | .leq=>mM none (.bool (Op.bytesLess a b || a==b))
 | .gtr=>mM none (.bool (!(Op.bytesLess a b || a==b)))
 | .geq=>mM none (.bool (!Op.bytesLess a b))
 | .add=>mM (some (dp (a.length+b.length<=9223372036854775807))) (.str (a++b))
 | _=>none
def eq1 (k:Nat)(x y:Lf D):Option Bool:=
 match k with
 | 1=>(match x,y with
  | .bool a, .bool b=>some (a==b)
  | _,_=>none)
 | 2=>(match x,y with
  | .int k a, .int c b=>if kEq k c then some (a==b)else none
  | _,_=>none)
 | 3=>(match x,y with
  | .str a, .str b=>some (a==b)
  | _,_=>none)
 | _=>none
def xC:List Nat->List (Lf D)->List (Lf D)->Option Bool
 | [],[],[]=>some true
 | k::ks,x::a,y::b=>
  (match eq1 k x y,xC ks a b with
  | some e,some r=>some (e && r)
  | _,_=>none)
 | _,_,_=>none
def ahZ (T:TypeId->Option Ty)(S:Sh D)(a:BinOp)(t:TypeId)(x y:Sl D):Option (Out D):=
 match T t with
 | none=>none
 | some c=>(match c.elem,x,y with
  | some _, .one (.lf (.dat d)), .one (.lf (.val (.slice none 0 0)))=>if Nat.blt 0 (S.size d)then(match a with
   | .eql=>mM none (.unk fun b=>b=true->S.len d=0)
   | .neq=>mM none (.unk fun b=>b=false->S.len d=0)
   | _=>none)else none
  | some _, .one (.lf (.val (.slice none 0 0))), .one (.lf (.val (.slice none 0 0)))=>(match a with
   | .eql=>mM none (.val (.bool true))
   | .neq=>mM none (.val (.bool false))
   | _=>none)
  | _,_,_=>none)
def aAM (T:TypeId->Option Ty)(op:BinOp)(t:TypeId)(x y:Sl D):Option (Out D):=
 match x,y with
 | .one (.lf (.int k a)), .one (.lf (.int d b))=>(match op with
  | .shl=>aJe k a b
  | .shr=>aJk k a b
  | op=>if kEq k d then aHc op k a b else none)
 | .one (.lf (.str a)), .one (.lf (.str b))=>aH9 op a b
 | .one (.agg e), .one (.agg f)=>
  (match T t with
  | some c=>(match c.eqs with
   | []=>none
   | ks=>(match xC ks (e.map Lf.norm) (f.map Lf.norm),op with
    | some r, .eql=>mM none (.bool r)
    | some r, .neq=>mM none (.bool (!r))
    | _,_=>none))
  | none=>none)
 | x,y=>
  match bOf x,bOf y with
  | some a,some b=>
   (match T t with
   | some c=>if c.kind==1 then(match op with
    | .eql=>mM none (.bool (a==b))
    | .neq=>mM none (.bool (a !=b))
    | _=>none)else none
   | none=>none)
  | _,_=>none
def xUn (a:UnOp)(x:Sl D):Option (Out D):=
 match a,x with
 | .not, .one (.lf (.bool b))=>mM none (.bool (!b))
 | .not, .one (.lf (.val (.bool b)))=>mM none (.val (.bool (!b)))
 | .not, .one (.lf (.unk p))=>mM none (.unk fun b=>p (!b))
 | .neg, .one (.lf (.int k n))=>mM none (.int k (bJ k (-n)))
 | .xor, .one (.lf (.int k n))=>mM none (.int k (TE k (if k.signed then -1 else k.max) n))
 | _,_=>none
def E8 (S:Sh D)(d:D)(i:Nat):Nat->Nat->List (Lf D)
 | _,0=>[]
 | j,n+1=>S.cell d i j::E8 S d i (j+1) n
def BX (T:TypeId->Option Ty)(S:Sh D)(b:Nat->Option (Bk D))(t:TypeId)(x:Sl D):Option (Out D):=
 match T t with
 | none=>none
 | some a=>
  match x with
  | .one (.lf (.ptr l o))=>
   match b l with
   | some (.cells cs)=>
    if a.agg then(if Nat.ble (o+a.size) cs.length then some ⟨none, .one (.agg ((cs.drop o).take a.size)),[]⟩else none)
    else(match cs[o]? with
     | some y=>mM none y
     | none=>none)
   | _=>none
  | .one (.lf (.elt d i j))=>
   if a.agg then(if Nat.ble (j+a.size) (S.size d)then some ⟨none, .one (.agg (E8 S d i j a.size)),[]⟩else none)
   else(if Nat.blt j (S.size d)then mM none (S.cell d i j)else none)
  | .one (.lf (.opt l i j c))=>
   match b l with
   | some (.row e d)=>
    if a.agg then(if Nat.ble (j+a.size) (S.size d) && Nat.beq c (S.size d)then some ⟨some (dp (i < S.len d)), .one (.agg (E8 S d i j a.size)),[]⟩else none)
    else(if Nat.blt j (S.size d) && Nat.beq c (S.size d)then mM (some (dp (i < S.len d))) (S.cell d i j)else none)
   | _=>none
  | _=>none
def GV (T:TypeId->Option Ty)(S:Sh D)(a:Nat->Option (Bk D))(t:TypeId)(x y:Sl D):Option (Out D):=
 match T t,x,y with
 | some b, .one (.lf (.ptr l o)), .one u=>
  match a l with
  | some (.cells cs)=>
   if Nat.beq u.cells.length b.size && Nat.ble (o+u.cells.length) cs.length && u.cells.all Lf.storable then some ⟨none, .one (.lf .any),[(l,some (.cells (putAt cs o u.cells)))]⟩else none
  | _=>none
 | some b, .one (.lf (.opt l i j c)), .one u=>
  match a l with
  | some (.row e d)=>
   if Nat.beq u.cells.length b.size && Nat.ble (j+u.cells.length) (S.size d) && Nat.beq c (S.size d) && u.cells.all Lf.storable then(match S.set d i j (u.cells.map Lf.norm)with
    | some f=>some ⟨some (dp (i < S.len d)), .one (.lf .any),[(l,some (.row e f))]⟩
    | none=>none)else none
  | _=>none
 | _,_,_=>none
def QC (T:TypeId->Option Ty)(t:TypeId)(x:Sl D)(f:Nat):Option (Out D):=
 match T t with
 | none=>none
 | some c=>
  match c.amQ[f]?,x with
  | some (a,b,_), .one (.lf (.ptr l o))=>if Nat.beq b 0 then none else mM none (.ptr l (o+a))
  | some (a,b,_), .one (.lf (.elt d i j))=>if Nat.beq b 0 then none else mM none (.elt d i (j+a))
  | some (a,b,_), .one (.lf (.opt l i j z))=>if Nat.beq b 0 then none else mM none (.opt l i (j+a) z)
  | _,_=>none
def anw (T:TypeId->Option Ty)(t:TypeId)(x:Sl D)(f:Nat):Option (Out D):=
 match T t with
 | none=>none
 | some c=>
  match c.amQ[f]?,x with
  | some (a,b,d), .one (.agg cs)=>
   if Nat.beq b 0 then none else if d then(if Nat.ble (a+b) cs.length then some ⟨none, .one (.agg ((cs.drop a).take b)),[]⟩else none)
   else(match cs[a]? with
    | some y=>mM none y
    | none=>none)
  | _,_=>none
def JY (T:TypeId->Option Ty)(S:Sh D)(b:Nat->Option (Bk D))(t:TypeId)(x i:Sl D):Option (Out D):=
 match T t with
 | none=>none
 | some c=>
  match c.elem with
  | none=>none
  | some e=>
   match T e with
   | none=>none
   | some a=>
    match x,i with
    | .one (.lf (.dat d)), .one (.lf (.int _ n))=>if Nat.beq a.size (S.size d) && Nat.blt 0 a.size then mM (some (dp (0<=n/\n < S.len d))) (.elt d n.toNat 0)else none
    | .one (.lf (.own l)), .one (.lf (.int _ n))=>
     match b l with
     | some (.row _ d)=>if Nat.beq a.size (S.size d) && Nat.blt 0 a.size then mM (some (dp (0<=n/\n < S.len d))) (.opt l n.toNat 0 a.size)else none
     | some (.xZ d)=>if Nat.beq a.size (S.size d) && Nat.blt 0 a.size then mM (some (dp (0<=n/\n < S.len d))) (.elt d n.toNat 0)else none
     | _=>none
    | _,_=>none
def Gi (x:Sl D)(i:Nat):Option (Out D):=
 match x with
 | .wU a=>(match a[i]? with
  | some y=>some ⟨none, .one y,[]⟩
  | none=>none)
 | _=>none
def J6 (c:Ty)(a:Nat->Sl D):List (Nat×Operand)->List (Lf D)->Option (List (Lf D))
 | [],cs=>some cs
 | (f,x)::r,cs=>
  match c.amQ[f]?,aG a x with
  | some (b,d,_), .one u=>if u.whole && Nat.beq u.cells.length d && Nat.ble (b+d) cs.length then J6 c a r (putAt cs b u.cells)else none
  | _,_=>none
def afa (T:TypeId->Option Ty)(b:Nat->Sl D)(t:TypeId)(parts:Array (Nat×Operand)):Option (Out D):=
 match T t with
 | some a=>
  if a.kind==5 && a.amQ.all (fun f=> !Nat.beq f.2.1 0)then(match J6 a b parts.toList (a.zero.map D8)with
   | some cs=>some ⟨none, .one (.agg cs),[]⟩
   | none=>none)else none
 | none=>none
def Az (a:Nat)(b:Nat->Sl D):List (Nat×Operand)->List (Lf D)->Option (List (Lf D))
 | [],cs=>some cs
 | (i,x)::r,cs=>
  match aG b x with
  | .one u=>if u.whole && Nat.beq u.cells.length a && Nat.ble (i*a+a) cs.length then Az a b r (putAt cs (i*a) u.cells)else none
  | _=>none
def aAR (T:TypeId->Option Ty)(S:Sh D)(c:Nat->Sl D)(g:Nat)(t:TypeId)(b:Nat)(parts:Array (Nat×Operand)):Option (Out D):=
 match T t with
 | none=>none
 | some f=>
  match f.elem with
  | none=>none
  | some e=>
   match T e with
   | none=>none
   | some a=>
    if Nat.ble (b*a.size) 16777216 && Nat.blt 0 a.size && Nat.beq a.zero.length a.size then(match Az a.size c parts.toList ((List.range (b*a.size)).map fun k=>D8 ((a.zero[k % a.size]?).getD (.bool false)))with
     | some cs=>(match S.make e b (cs.map Lf.norm)with
      | some d=>if f.lit || Nat.beq b 0 then some ⟨none, .one (.lf (.own g)),[(g,some (.row e d))]⟩else mM none (.dat d)
      | none=>none)
     | none=>none)else none
def ag9 (d:Nat->Sl D)(c a b:Operand):Option (Out D):=
 match aG d c with
 | .one (.lf (.val (.bool true)))=>some ⟨none,aG d a,[]⟩
 | .one (.lf (.val (.bool false)))=>some ⟨none,aG d b,[]⟩
 | .one (.lf (.bool t))=>
  match bOf (aG d a),bOf (aG d b)with
  | some x,some y=>mM none (.bool (bif t then x else y))
  | _,_=>none
 | _=>none
def aks (S:Sh D)(T:TypeId->Option Ty)(b:Nat->Option (Bk D))(c:Array TypeId)(x:Sl D):Option (Out D):=
 match c[0]? with
 | none=>none
 | some t=>
  match T t with
  | none=>none
  | some a=>
   match x with
   | .one (.lf (.dat d))=>if a.kind==4 && Nat.blt 0 (S.size d)then mM none (.int .i64 (S.len d))else none
   | .one (.lf (.str s))=>if a.kind==3 then mM none (.int .i64 s.length)else none
   | .one (.lf (.own l))=>(match b l with
    | some (.row _ d)=>if a.kind==4 then mM none (.int .i64 (S.len d))else none
    | some (.xZ d)=>if a.kind==4 && Nat.blt 0 (S.size d)then mM none (.int .i64 (S.len d))else none
    | _=>none)
   | .one (.lf (.val (.slice none 0 0)))=>if a.kind==4 then mM none (.int .i64 0)else none
   | _=>none
def ay8 (b:Builtin)(x y:Sl D):Option (Out D):=
 match b,x,y with
 | .min, .one (.lf (.int k a)), .one (.lf (.int _ c))=>mM none (.int k (min a c))
 | .max, .one (.lf (.int k a)), .one (.lf (.int _ c))=>mM none (.int k (max a c))
 | _,_,_=>none
def Lf.refs:Lf D->List Nat
 | .ptr l _=>[l]
 | .own l=>[l]
 | .opt l _ _ _=>[l]
 | .part l _ _ _ _=>[l]
 | .fn _ a=>a
 | _=>[]
def Sv.refs:Sv D->List Nat
 | .lf x=>x.refs
 | .agg a=>a.flatMap Lf.refs
def Sl.refs:Sl D->List Nat
 | .one x=>x.refs
 | .wU a=>a.flatMap Sv.refs
def Bk.refs:Bk D->List Nat
 | .cells cs=>cs.flatMap Lf.refs
 | .tc _ cs=>cs.flatMap Lf.refs
 | _=>[]
def Lf.ren (f:Nat->Nat):Lf D->Lf D
 | .ptr l o=> .ptr (f l) o
 | .own l=> .own (f l)
 | .opt l i j b=> .opt (f l) i j b
 | .part l i j b h=> .part (f l) i j b h
 | .fn h a=> .fn h (a.map f)
 | x=>x
def Sv.ren (f:Nat->Nat):Sv D->Sv D
 | .lf x=> .lf (x.ren f)
 | .agg a=> .agg (a.map (Lf.ren f))
def Sl.ren (f:Nat->Nat):Sl D->Sl D
 | .one x=> .one (x.ren f)
 | .wU a=> .wU (a.map (Sv.ren f))
def Bk.ren (f:Nat->Nat):Bk D->Bk D
 | .cells cs=> .cells (cs.map (Lf.ren f))
 | .tc t cs=> .tc t (cs.map (Lf.ren f))
 | x=>x
def Lf.og:Lf D->Bool
 | .dat _=>true
 | .elt _ _ _=>true
 | .xt _=>true
 | _=>false
def Sv.og:Sv D->Bool
 | .lf x=>x.og
 | .agg a=>a.any Lf.og
def Sl.og:Sl D->Bool
 | .one x=>x.og
 | .wU a=>a.any Sv.og
def Bk.og:Bk D->Bool
 | .cells cs=>cs.any Lf.og
 | .iter _ _=>false
 | .map _=>false
 | .tc _ cs=>cs.any Lf.og
 | _=>true
def uP (l:Nat):List Nat->Bool
 | []=>false
 | x::r=>Nat.beq x l || uP l r
def mQ:List Nat->List Nat->List Nat
 | ids,[]=>ids
 | ids,l::r=>mQ (if uP l ids then ids else ids++[l]) r
def reach (a:Nat->Option (Bk D)):Nat->List Nat->List Nat
 | 0,ids=>ids
 | n+1,ids=>reach a n (mQ ids (ids.flatMap fun l=>match a l with
  | some b=>b.refs
  | none=>[]))
def allIn (ids:List Nat):List Nat->Bool
 | []=>true
 | l::r=>uP l ids && allIn ids r
def vI (a:Nat->Option (Bk D)):List Nat->Option (List (Bk D))
 | []=>some []
 | l::r=>(match a l,vI a r with
  | some b,some c=>some (b::c)
  | _,_=>none)
def jd:List Nat->Nat->Nat
 | [],_=>0
 | x::r,l=>if Nat.beq x l then 0 else jd r l+1
def backTo (ids:List Nat)(a i:Nat):Nat:=if Nat.blt i ids.length then ids.getD i 0 else a+(i - ids.length)
def Lf.view (a:Nat->Option (Bk D)):Lf D->Lf D
 | .own l=>(match a l with
  | some (.row _ d)=> .dat d
  | some (.map d)=> .dat d
  | some (.xZ d)=> .dat d
  | _=> .own l)
 | .part l i j c f=>(match a l with
  | some (.row _ d)=>(match f d with
   | some b=> .dat b
   | none=> .any)
  | some (.xZ d)=>(match f d with
   | some b=> .dat b
   | none=> .any)
  | _=> .part l i j c f)
 | x=>x
def Sv.view (a:Nat->Option (Bk D)):Sv D->Sv D
 | .lf x=> .lf (x.view a)
 | .agg b=> .agg (b.map (Lf.view a))
def Sl.view (a:Nat->Option (Bk D)):Sl D->Sl D
 | .one x=> .one (x.view a)
 | .wU b=> .wU (b.map (Sv.view a))
def Lf.owns:Lf D->List Nat
 | .own l=>[l]
 | .part l _ _ _ _=>[l]
 | _=>[]
def Sv.owns:Sv D->List Nat
 | .lf x=>x.owns
 | .agg a=>a.flatMap Lf.owns
def Sl.owns:Sl D->List Nat
 | .one x=>x.owns
 | .wU a=>a.flatMap Sv.owns
def TR (k:Nat):List (Nat×Bk D)->Bool
 | []=>true
 | (i,_)::r=>Nat.blt i (k+64) && TR k r
def nodupB:List (Nat×Bk D)->Bool
 | []=>true
 | (i,_)::r=> !(r.any fun p=>Nat.beq p.1 i) && nodupB r
def kX:List (Nat×Bk D)->Nat->Option (Bk D)
 | [],_=>none
 | (k,v)::r,n=>if Nat.beq k n then some v else kX r n
def rwD:Option (Bk D)->Option D
 | some (.row _ d)=>some d
 | some (.map d)=>some d
 | _=>none
def jl (a:Nat->Option (Bk D))(l:Nat):Option (Nat×Option (Bk D)):=
 match rwD (a l)with
 | some d=>some (l,some (.xZ d))
 | none=>none
def ayp (a:List (Bk D))(i:Nat):List Nat:=
 match a[i]? with
 | some b=>b.refs
 | none=>[]
def ayt (a:List (Bk D))(i:Nat):Bool:=
 match a[i]? with
 | some b=>b.og
 | none=>false
def xR (b:List (Nat×Bk D))(a:List Nat)(c:List (Bk D))(i:Nat):Option (Bk D):=
 match kX b i with
 | some d=>some d
 | none=>if uP i a then c[i]? else none
def Ea (g:Ct D)(c:Nat->Option (Bk D))(e:Nat)(args:List (Sl D))(f:List Nat):Option (Out D):=
 let ids:=reach c 3 (mQ [] (args.flatMap Sl.refs))
 match vI c ids with
 | none=>none
 | some d=>
  if allIn ids (args.flatMap Sl.refs) && allIn ids (d.flatMap Bk.refs) && !(f.any fun l=>uP l ids)then
   (match g (args.map (Sl.ren (jd ids))) (d.map (Bk.ren (jd ids)))with
   | some (p,r,a,b)=>
    if TR ids.length a && nodupB a && allIn (a.map (·.1)++b) (a.flatMap fun q=>q.2.refs) && allIn (a.map (·.1)++b) r.refs &&
      allIn (a.map (·.1)++b) (b.flatMap fun i=>ayp (d.map (Bk.ren (jd ids))) i) && b.all (fun i=>Nat.blt i ids.length && !uP i (a.map (·.1)))then
     some ⟨p,r.ren (backTo ids e),((ids.filter fun l=> !uP (jd ids l) b).map fun l=>(l,(kX a (jd ids l)).map (Bk.ren (backTo ids e))))++(a.filter fun q=> !Nat.blt q.1 ids.length).map (fun q=>(backTo ids e q.1,some (q.2.ren (backTo ids e))))++
      (if r.og || a.any (fun q=>q.2.og) || b.any (fun i=>ayt (d.map (Bk.ren (jd ids))) i)then f.filterMap (jl c)else[])⟩
    else none
   | none=>none)
  else none
def JF (e:FuncId->Option (Ct D))(f:FuncId)(a:Nat->Option (Bk D))(args:List (Sl D))(c:Nat):Option (Out D):=
 match e f with
 | none=>none
 | some d=>
  let b:=args.map Sl.norm
  z_ (Ea d a c (b.map (Sl.view a)) (mQ [] (b.flatMap Sl.owns))) (Ea d a c b [])
def F7 (a:Nat->Sl D):List Operand->Option (List Nat)
 | []=>some []
 | x::r=>(match aG a x,F7 a r with
  | .one (.lf (.ptr l 0)),some b=>some (l::b)
  | _,_=>none)
def Nz (a:Nat->Option (Bk D)):Sl D->Option D
 | .one (.lf (.dat d))=>some d
 | .one (.lf (.own l))=>(match a l with
  | some (.row _ d)=>some d
  | some (.xZ d)=>some d
  | _=>none)
 | _=>none
def dE (n bytes:Nat):Prop:=n<=1099511627776/\n*bytes<=140737488355328
instance {n b:Nat}:Decidable (dE n b):=inferInstanceAs (Decidable (_/\_))
def Ii (T:TypeId->Option Ty)(S:Sh D)(c:Nat->Option (Bk D))(b:Nat)(h:Array TypeId)(x y:Sl D):Option (Out D):=
 match h.toList with
 | [t,g]=>if Nat.beq t g then(match T t with
  | none=>none
  | some f=>(match f.elem with
   | none=>none
   | some e=>(match T e with
    | none=>none
    | some a=>(match Nz c y with
     | none=>none
     | some d2=>
      if Nat.beq a.size (S.size d2) && Nat.blt 0 a.size && Nat.beq a.zero.length a.size then(match x with
       | .one (.lf (.val (.slice none 0 0)))=>some ⟨some (dp (dE (S.len d2) a.bytes)), .one (.lf (.own b)),[(b,some (.row e d2))]⟩
       | .one (.lf (.own l))=>(match c l with
        | some (.row i d1)=>if Nat.beq e i then(match S.cat d1 d2 with
         | some d=>some ⟨some (dp (dE (S.len d1+S.len d2) a.bytes)), .one (.lf (.own b)),[(l,none),(b,some (.row e d))]⟩
         | none=>none)else none
        | _=>none)
       | _=>none)else none))))else none
 | _=>none
def atH (T:TypeId->Option Ty)(S:Sh D)(b:Nat)(t:TypeId)(x y:Sl D):Option (Out D):=
 match T t with
 | none=>none
 | some c=>(match c.elem with
  | none=>none
  | some e=>(match T e with
   | none=>none
   | some a=>(match x,y with
    | .one (.lf (.int _ n)), .one (.lf (.int _ m))=>if Nat.blt 0 a.size && Nat.beq a.zero.length a.size then(match S.zero e n.toNat (a.zero.map fun v=>(D8 v).norm)with
     | some d=>some ⟨some (dp (n=m/\0<=n/\n*a.bytes<=281474976710656/\n<=1099511627776)), .one (.lf (.own b)),[(b,some (.row e d))]⟩
     | none=>none)else none
    | _,_=>none)))
def adL (T:TypeId->Option Ty)(t:TypeId)(x i:Sl D):Option (Out D):=
 match T t with
 | none=>none
 | some a=>(match x,i with
  | .one (.lf (.str s)), .one (.lf (.int _ n))=>if a.kind==3 then mM (some (dp (0<=n/\n < s.length))) (.int .u8 (s.getD n.toNat 0).toNat)else none
  | _,_=>none)
def ao1 (T:TypeId->Option Ty)(src a:TypeId)(x:Sl D):Option (Out D):=
 match T src,T a,x with
 | some _,some b, .one (.lf (.int _ n))=>(match ar5 b.kind with
  | some k=>mM none (.int k (bJ k n))
  | none=>none)
 | _,_,_=>none
def bnd (n:Nat):Option (Sl D)->Option Int
 | none=>some n
 | some (.one (.lf (.int _ i)))=>some i
 | some _=>none
def PN (T:TypeId->Option Ty)(S:Sh D)(f:Nat->Option (Bk D))(t:TypeId)(x:Sl D)(g c:Option (Sl D)):Option (Out D):=
 match T t with
 | none=>none
 | some b=>(match bnd 0 g with
  | none=>none
  | some l=>(match x with
   | .one (.lf (.str s))=>if b.kind==3 then(match bnd s.length c with
    | some h=>mM (some (dp (0<=l/\l<=h/\h<=s.length))) (.str ((s.take h.toNat).drop l.toNat))
    | none=>none)else none
   | .one (.lf (.dat d))=>(match b.elem with
    | none=>none
    | some e=>(match T e with
     | none=>none
     | some a=>if Nat.beq a.size (S.size d) && Nat.blt 0 a.size then(match bnd (S.len d) c with
      | some h=>(match S.sub d l.toNat h.toNat with
       | some i=>mM (some (dp (0<=l/\l<=h/\h<=S.len d))) (.dat i)
       | none=>none)
      | none=>none)else none))
   | .one (.lf (.own q))=>(match b.elem with
    | none=>none
    | some e=>(match T e with
     | none=>none
     | some a=>(match f q with
      | some (.row _ d)=>(match bnd (S.len d) c with
       | some h=>mM (some (dp (0<=l/\l<=h/\h<=S.len d))) (.part q l.toNat h.toNat a.size (aaU S a.size l.toNat h.toNat))
       | none=>none)
      | _=>none)))
   | _=>none))
def aaM (T:TypeId->Option Ty)(S:Sh D)(b:Nat->Option (Bk D))(g:Array TypeId)(x y:Sl D):Option (Out D):=
 match g.toList with
 | [t,f]=>if Nat.beq t f then(match T t with
  | none=>none
  | some c=>(match c.elem with
   | none=>none
   | some e=>(match T e with
    | none=>none
    | some a=>(match x,y with
     | .one (.lf (.own l)), .one (.lf (.dat d2))=>(match b l with
      | some (.row h d1)=>if Nat.beq e h && (Nat.beq a.size (S.size d1) && (Nat.beq a.size (S.size d2) && Nat.blt 0 a.size))then
       (match S.sub d2 0 (min (S.len d2) (S.len d1)),S.sub d1 (min (S.len d2) (S.len d1)) (S.len d1)with
       | some p,some q=>(match S.cat p q with
        | some d=>some ⟨none, .one (.lf (.int .i64 (min (S.len d2) (S.len d1):Nat))),[(l,some (.row e d))]⟩
        | none=>none)
       | _,_=>none)else none
      | _=>none)
     | _,_=>none))))else none
 | _=>none
def isCells:Option (Bk D)->Bool
 | some (.cells _)=>true
 | _=>false
def wH (T:TypeId->Option Ty)(S:Sh D)(v:FuncId->Option (Ct D))(e:Nat->Sl D)(g:Nat->Option (Bk D))(k:Nat)(o:Op):Option (Out D):=
 match o with
 | .move x=>some ⟨none,aG e x,[]⟩
 | .assign x=>some ⟨none,aG e x,[]⟩
 | .pick c a b=>ag9 e c a b
 | .alloc t=>(match T t with
  | some q=>some ⟨none, .one (.lf (.ptr k 0)),[(k,some (.cells (q.zero.map D8)))]⟩
  | none=>none)
 | .box _ x=>(match aG e x with
  | .one u=>if u.whole then some ⟨none, .one (.lf (.ptr k 0)),[(k,some (.cells u.cells))]⟩else none
  | _=>none)
 | .build t parts=>afa T e t parts
 | .buildSlice t n parts=>aAR T S e k t n parts
 | .load t x=>BX T S g t (aG e x)
 | .store t x y=>GV T S g t (aG e x) (aG e y)
 | .nilCheck x=>(match aG e x with
  | .one (.lf (.ptr l o))=>mM none (.ptr l o)
  | .one (.lf (.elt d i j))=>mM none (.elt d i j)
  | .one (.lf (.opt l i j s))=>mM none (.opt l i j s)
  | .one (.lf (.fn f h))=>mM none (.fn f h)
  | _=>none)
 | .binOp m t x y _=>z_ (ahZ T S m t (aG e x) (aG e y)) (aAM T m t (aG e x) (aG e y))
 | .unOp m _ x=>xUn m (aG e x)
 | .fieldAddr t x f=>QC T t (aG e x) f
 | .field t x f=>anw T t (aG e x) f
 | .indexAddr t x i=>JY T S g t (aG e x) (aG e i)
 | .extract x i=>Gi (aG e x) i
 | .call c=>(match c.callee with
  | .builtin .len=>(match c.args.toList with
   | [x]=>aks S T g c.argTypes (aG e x)
   | _=>none)
  | .builtin .min=>(match c.args.toList with
   | [x,y]=>ay8 .min (aG e x) (aG e y)
   | _=>none)
  | .builtin .max=>(match c.args.toList with
   | [x,y]=>ay8 .max (aG e x) (aG e y)
   | _=>none)
  | .builtin .append=>(match c.args.toList with
   | [x,y]=>Ii T S g k c.argTypes (aG e x) (aG e y)
   | _=>none)
  | .builtin .copy=>(match c.args.toList with
   | [x,y]=>aaM T S g c.argTypes (aG e x) (aG e y)
   | _=>none)
  | .value f=>(match aG e f with
   | .one (.lf (.fn f h))=>if h.all (fun l=>isCells (g l))then JF v f g (c.args.toList.map (aG e)++h.map fun l=> .one (.lf (.ptr l 0))) k else none
   | _=>none)
  | _=>none)
 | .makeFunc (.func f) first h=>if first.isEmpty then(match F7 e h.toList with
  | some w=>mM none (.fn f w)
  | none=>none)else none
 | .makeSlice t x y=>atH T S k t (aG e x) (aG e y)
 | .index t x i=>adL T t (aG e x) (aG e i)
 | .convert src p x=>ao1 T src p (aG e x)
 | .slice t x r z none=>PN T S g t (aG e x) (r.map (aG e)) (z.map (aG e))
 | _=>none
end
end Go.Vc
