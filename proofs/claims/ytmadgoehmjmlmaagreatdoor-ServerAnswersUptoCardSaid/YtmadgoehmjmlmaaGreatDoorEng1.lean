/- Own engine: Vd1, Vd2, Vd3. -/
import Derived.WalkKit
import Derived.Deep.LoopGhost
import Derived.Orders
import Derived.IntWalk
import Derived.KernelRfl
set_option linter.unusedVariables false
set_option linter.unusedSimpArgs false
namespace Go.Vc
abbrev Qa:=@Nat.eq_of_beq_eq_true
abbrev kT:=@List.length_append
abbrev jR:=@Bool.and_eq_true
abbrev qy:=@decide_eq_false
abbrev l9:=@Nat.le_refl
abbrev rW:=@List.mem_append
abbrev uw:=@List.length_take
abbrev ww:=@Int.toNat_natCast
abbrev zD:=@List.mem_singleton
abbrev uu:=@decide_eq_true
abbrev wW:=@List.mem_flatMap
abbrev yF:=@List.length_cons
abbrev pO:=@cond_false
abbrev DK:=@of_decide_eq_true
abbrev xI:=@List.mem_cons
abbrev BM:=@List.length_nil
abbrev Eo:=@List.take_length
abbrev Om:=@Nat.mul_le_mul_right
abbrev vg:=@Nat.zero_le
abbrev Xh:=@List.getElem?_eq_getElem
abbrev Nj:=@List.getElem?_take
abbrev zI:=@List.mem_map
abbrev zO:=@Nat.le_trans
abbrev Qj:=@Array.length_toList
abbrev JD:=@Array.toList_inj
abbrev Nb:=@Option.some.injEq
abbrev Oy:=@List.append_assoc
abbrev Qa0:=@List.eq_nil_of_length_eq_zero
abbrev IR:=@Option.map_some
abbrev DT:=@List.map_cons
abbrev Nk:=@List.length_drop
abbrev lL:=@if_neg
abbrev Nv:=@List.all_eq_true
abbrev Qa6:=@List.getElem?_eq_some_iff
abbrev mi:=@if_pos
abbrev Qa8:=@Nat.le_of_ble_eq_true
abbrev DU:=@Nat.zero_add
abbrev Qb:=@List.not_mem_nil
abbrev Qba:=@List.getElem?_append_right
abbrev R_:=@List.mem_filter
abbrev Qbc:=@List.getElem?_append_left
abbrev Qbd:=@List.getElem?_map
abbrev Bo:=@cond_true
abbrev Qbf:=@List.filter_append
abbrev Hu:=@Nat.blt_eq
abbrev Qm:=@Nat.add_zero
abbrev Qbi:=@List.append_nil
abbrev Qbj:=@List.length_map
abbrev Qbk:=@List.take_append_drop
abbrev Xg:=@Prod.mk.injEq
abbrev Qbm:=@List.length_set
abbrev Qbn:=@decide_eq_true_eq
abbrev Qbo:=@Bool.false_eq_true
abbrev Qbp:=@List.getElem?_drop
abbrev QO:=@Nat.add_mul
abbrev Qbr:=@Bool.not_eq_true'
abbrev Qbs:=@List.map_congr_left
abbrev Qbt:=@List.mem_of_getElem?
abbrev Qbu:=@List.flatMap_cons
abbrev Qbv:=@List.take_append_of_le_length
abbrev Qbw:=@List.drop_eq_getElem_cons
abbrev Qbx:=@Bool.or_eq_true
abbrev Qby:=@List.take_succ_eq_append_getElem
abbrev Qbz:=@of_decide_eq_false
abbrev Qb0:=@List.length_filter_le
abbrev Qb1:=@Int.eq_ofNat_of_zero_le
abbrev Qb2:=@Int.le_refl
abbrev Qb3:=@List.mem_cons_of_mem
abbrev Qb4:=@List.take_of_length_le
abbrev Qb5:=@List.cons_append
abbrev Qb6:=@Nat.mod_eq_of_lt
abbrev Qb7:=@Option.isSome_iff_exists
abbrev Qb8:=@Array.toList_append
abbrev Qb9:=@List.mem_append_left
abbrev Qc:=@Bool.cond_eq_ite
abbrev Qca:=@List.filter_cons
abbrev Qcb:=@List.mem_or_eq_of_mem_set
abbrev Qcc:=@beq_eq_false_iff_ne
abbrev Qcd:=@Array.getElem?_toList
abbrev Qce:=@Classical.choose_spec
abbrev Qcf:=@List.getElem?_eq_none
abbrev Qcg:=@List.length_singleton
abbrev Qch:=@List.mem_append_right
abbrev Qci:=@List.nil_append
abbrev Qcj:=@Option.map_none
abbrev Qck:=@Nat.lt_of_lt_of_le
abbrev Qcl:=@List.getElem?_cons_zero
abbrev Qcm:=@List.map_toArray
abbrev Qcn:=@Bool.not_true
abbrev Qco:=@Array.getElem?_eq_some_iff
abbrev Qcp:=@List.any_eq_false
abbrev Qcq:=@List.size_toArray
abbrev Qcr:=@Option.map_eq_some_iff
abbrev Qcs:=@Array.getElem?_modify
abbrev Qct:=@List.any_eq_true
abbrev Qcu:=@List.mem_range
abbrev Qcv:=@Nat.min_eq_left
abbrev Qcw:=@List.filter_eq_self
abbrev Qcx:=@List.map_nil
abbrev Qcy:=@Nat.mul_comm
abbrev Qcz:=@Nat.eq_zero_or_pos
abbrev Qc0:=@List.length_replicate
abbrev Qc1:=@Option.some.inj
abbrev Qc2:=@List.map_map
abbrev Qc3:=@List.take_sublist
abbrev Qc4:=@Nat.succ_mul
abbrev Qc5:=@congrArg
abbrev Qc6:=@Nat.mod_lt
abbrev Qc7:=@beq_iff_eq
abbrev Qc8:=@Bool.not_eq_true
abbrev Qc9:=@List.nodup_nil
abbrev Qd:=@List.take_left
abbrev Qda:=@List.take_take
abbrev Qdb:=@Nat.lt_succ_self
abbrev Qdc:=@Option.getD_some
abbrev Qdd:=@Nat.mul_one
abbrev Qde:=@List.mem_filterMap
abbrev Qdf:=@Nat.lt_or_ge
abbrev Qdg:=@Bool.eq_iff_iff
abbrev Qdh:=@List.cons.injEq
abbrev Qdi:=@List.map_append
abbrev Qdj:=@List.nodup_cons
abbrev Qdk:=@Bool.and_eq_false_iff
abbrev Qdl:=@Array.size_append
abbrev Qdm:=@List.take_sublist_take_left
abbrev Qdn:=@BitVec.ofInt_natCast
abbrev Qdo:=@List.getElem?_append
abbrev Qdp:=@List.flatMap_map
abbrev Qdq:=@Nat.le_of_eq
abbrev Qdr:=@Array.getElem?_eq_getElem
abbrev Qds:=@Array.mapM_eq_mapM_toList
abbrev Qdt:=@List.extract_eq_take_drop
abbrev Qdu:=@List.drop_set_of_lt
abbrev Qdv:=@List.filterMap_cons
abbrev Qdw:=@List.getElem_of_mem
abbrev Qdx:=@List.length_pos_iff
abbrev Qdy:=@Nat.mul_le_mul_left
abbrev Qdz:=@List.all_cons
abbrev Qd0:=@Nat.add_assoc
abbrev Qd1:=@Prod.ext
abbrev Qd2:=@List.filter_nil
abbrev Qd3:=@BitVec.toNat_ofNat
abbrev Qd4:=@List.pairwise_singleton
abbrev Qd5:=@Array.getElem?_eq_none
abbrev Qd6:=@List.append_eq_nil_iff
abbrev Qd7:=@List.drop_of_length_le
abbrev Qd8:=@List.filter_eq_nil_iff
abbrev Qd9:=@List.length_eq_one_iff
abbrev Qe:=@List.nodup_append
abbrev Qea:=@Array.mem_of_getElem?
abbrev Qeb:=@List.concat_eq_append
abbrev Qec:=@List.eq_nil_or_concat
abbrev Qed:=@List.set_append_right
abbrev Qee:=@Nat.div_lt_iff_lt_mul
abbrev Qef:=@Bool.or_eq_false_iff
abbrev Qeg:=@List.getElem?_of_mem
abbrev Qeh:=@List.mem_of_mem_drop
abbrev Qei:=@Nat.pow_le_pow_right
abbrev Qej:=@Nat.mul_add_mod
abbrev Qek:=@List.getD_cons_succ
abbrev Qel:=@List.getD_cons_zero
abbrev Qem:=@List.getElem?_range
abbrev Qen:=@List.take_succ_cons
abbrev Qeo:=@Nat.add_le_add_left
abbrev Qep:=@Nat.add_comm
abbrev Qeq:=@Nat.sub_self
abbrev Qer:=@List.take_zero
abbrev Qes:=@Nat.lt_of_le_of_lt
abbrev Qet:=@UInt8.toNat_lt
abbrev Qeu:=@List.map_id
abbrev Qev:=@Nat.le_succ
abbrev Qew:=@Nat.sub_mul
abbrev Qex:=@Bool.true_and
abbrev Qey:=@Int.lt_irrefl
abbrev Qez:=@List.take_set
theorem au{p:Prop}(h:p:=by omega):p:=h
theorem oO{p:Prop}(h:p:=by simp[Op.operands]):p:=h
theorem BZ{p:Prop}(h:p:=by simp only[Cm];omega):p:=h
theorem nG{p:Prop}(h:p:=by decide):p:=h
theorem uZ{p:Prop}(h:p:=by simp;omega):p:=h
theorem qa2{p:Prop}(h:p:=by simp):p:=h
theorem qa9{p:Prop}(h:p:=by rw[uw];omega):p:=h
theorem qbd{p:Prop}(h:p:=by rw[he];simp[Sl.refs,Sv.refs,Lf.refs]):p:=h
theorem qbg{p:Prop}(h:p:=by rintro rfl;exact hfr _ (l9 _) (by omega) (h.al _ _ hl)):p:=h
theorem qbi{p:Prop}(h:p:=by simpa using lift (a1:=[]) b2 _ fun x hx=>by simp only[Qbu,rW];exact .inr hx):p:=h
theorem qbm{p:Prop}(h:p:=by simp[Sl.refs,Sv.refs,Lf.refs]):p:=h
theorem qbn{p:Prop}(h:p:=by rw[hmr];exact wW.2 ⟨_,hx,hlx⟩):p:=h
theorem qbp{p:Prop}(h:p:=by simp only[kT,uw,e2];omega):p:=h
theorem qbq{p:Prop}(h:p:=by simpa using h):p:=h
theorem qbt{p:Prop}(h:p:=by simp only[uw];omega):p:=h
theorem qbu{p:Prop}(h:p:=by rw[hx];simp):p:=h
theorem qb3{p:Prop}(h:p:=by simp[Lf.refs]):p:=h
theorem qb4{p:Prop}(h:p:=by simpa using hj):p:=h
theorem qb5{p:Prop}(h:p:=by subst hv6;simp only[kT,uw,Qc0];omega):p:=h
theorem qb6{p:Prop}(h:p:=by simpa[Hu]using hlt):p:=h
theorem qb7{p:Prop}(h:p:=by simp at hl⊢;exact .inr hl):p:=h
theorem qc{p:Prop}(h:p:=by simp only[Op.operands,zI];exact⟨p,hp,rfl⟩):p:=h
theorem qcd{p:Prop}(h:p:=by rw[Qbm];omega):p:=h
theorem qcf{p:Prop}(h:p:=by rw[hmr];exact wW.2 ⟨.tmp t,qj.1 ht,hl⟩):p:=h
theorem qch{p:Prop}(h:p:=by rw[hb];rfl):p:=h
theorem qci{p:Prop}(h:p:=by simp[hl]):p:=h
theorem qcj{p:Prop}(h:p:=by simpa[zk]using hw):p:=h
theorem qcl{p:Prop}(h:p:=by simpa using hi):p:=h
theorem qcm{p:Prop}(h:p:=by simp[execOp,ho,hc,asBool]):p:=h
theorem qcq{p:Prop}(h:p:=by rw[hsz];omega):p:=h
theorem qcs{p:Prop}(h:p:=by simpa using hx):p:=h
theorem qct{p:Prop}(h:p:=by simp[hx]):p:=h
theorem qcu{p:Prop}(h:p:=by simp[hy]):p:=h
theorem qcv{p:Prop}(h:p:=by simpa using h1):p:=h
theorem qcx{p:Prop}(h:p:=by rw[e];rfl):p:=h
open Go.RowKit
inductive Pv where
 | bool (b:Bool)
 | int (k:IntKind) (n:Int)
 | str (s:List UInt8)
structure mY where
 t:TypeId
 agg:Bool
 xs:List Pv
def Pv.val:Pv->Value
 | .bool b=> .bool b
 | .int k n=> .int k n
 | .str s=> .string ⟨s.toArray⟩
def mY.inner (i:mY):Value:=
 match i.agg,i.xs with
 | false,[x]=>x.val
 | _,xs=> .agg (xs.map Pv.val).toArray
def C9:Option mY->Value
 | none=> .nilIface
 | some i=> .iface i.t i.inner
def Pv.fits:Pv->Prop
 | .str s=>s.length<=9223372036854775807
 | _=>True
def ap8:Option mY->Prop
 | none=>True
 | some i=>∀p∈i.xs,p.fits
inductive Dl (D:Type):Type where
 | bool (b:Bool)
 | int (k:IntKind) (n:Int)
 | str (s:List UInt8)
 | dat (d:D)
 | aFL
inductive Xt (D:Type):Type where
 | ifd (t:TypeId) (agg:Bool) (xs:List (Dl D))
 | clo (f:FuncId) (agg:Bool) (xs:List (Dl D))
 | clip (d:D)
inductive Lf (D:Type):Type where
 | any
 | val (v:Value)
 | bool (b:Bool)
 | int (k:IntKind) (n:Int)
 | str (s:List UInt8)
 | ptr (l off:Nat)
 | dat (d:D)
 | elt (d:D) (i j:Nat)
 | fn (f:FuncId) (caps:List Nat)
 | own (l:Nat)
 | opt (l i j sz:Nat)
 | unk (p:Bool->Prop)
 | part (l i j sz:Nat) (f:D->Option D)
 | glb (i:Nat)
 | Xa (v:Option mY)
 | xt (e:Xt D)
inductive Bk (D:Type):Type where
 | cells (cs:List (Lf D))
 | row (e:TypeId) (d:D)
 | xw (d:D)
 | iter (s:List UInt8) (pos:Nat)
 | map (d:D)
 | tc (t:TypeId) (cs:List (Lf D))
inductive Sv (D:Type):Type where
 | lf (x:Lf D)
 | agg (xs:List (Lf D))
inductive Sl (D:Type):Type where
 | one (x:Sv D)
 | yD (xs:List (Sv D))
structure Mp (D:Type) where
 kind:Nat
 agg:Bool
 zero:List Pv
 kvs:List (Pv×List Pv)
 has:Pv->Bool
 get:Pv->List (Lf D)
 put:Pv->List Pv->D
 len:Nat
structure Sh (D:Type) where
 size:D->Nat
 len:D->Nat
 cell:D->Nat->Nat->Lf D
 make:TypeId->Nat->List (Lf D)->Option D
 zero:TypeId->Nat->List (Lf D)->Option D
 set:D->Nat->Nat->List (Lf D)->Option D
 cat:D->D->Option D
 sub:D->Nat->Nat->Option D
 OY:Nat->Option D
 text:TypeId->List UInt8->Option D
 mp:D->Option (Mp D):=fun _=>none
 run:Bool:=false
 aoF:TypeId->Option D:=fun _=>none
def sH (agg:Bool)(xs:List Pv):Value:=
 match agg,xs with
 | false,[x]=>x.val
 | _,xs=> .agg (xs.map Pv.val).toArray
def api (w:World)(agg:Bool)(kvs:List (Pv×List Pv))(v:Value):Prop:=
 (∀p∈kvs,p.1.fits/\∀x∈p.2,x.fits)/\((v= .map none/\kvs=[])\/
  ∃b es n,v= .map (some b)/\w.heap[b]? =some (.map es n)/\es.toList.map (fun e=>(e.key,e.val))=kvs.map fun p=>(p.1.val,sH agg p.2))
def YK {D:Type}(S:Sh D)(sz i j:Nat)(d:D):Option D:=if Nat.beq sz (S.size d)then S.sub d i j else none
def Lf.plain {D:Type}:Lf D->Value->Prop
 | .val x,u=>u=x
 | .bool b,u=>u= .bool b
 | .int k n,u=>u= .int k n
 | .str s,u=>u= .string ⟨s.toArray⟩/\s.length<=9223372036854775807
 | .dat _,_=>True
 | .Xa v,u=>u=C9 v/\ap8 v
 | _,_=>False
inductive Be {D:Type} (S:Sh D) (w:World):D->Value->Prop where
 | mp (d:D) (m:Mp D) (v:Value) (hm:S.mp d=some m) (hl:S.len d=0) (hz:S.size d=0) (h:api w m.agg m.kvs v):Be S w d v
 | mk (d:D) (hno:S.mp d=none) (a:Option Addr) (cap:Nat) (U:Nat->Nat->Value) (hcap:S.len d<=cap) (hlen:S.len d<=9223372036854775807)
   (hcell:∀i j,i < S.len d->j < S.size d->∃ad,a=some ad/\w.cell? (ad.add (i*S.size d+j))=some (U i j))
   (hpl:∀i j,i < S.len d->j < S.size d->Lf.plain (S.cell d i j) (U i j))
   (hdat:∀i j d',i < S.len d->j < S.size d->S.cell d i j= .dat d'->Be S w d' (U i j)):Be S w d (.slice a (S.len d) cap)
def dA {D:Type}(S:Sh D)(M:Nat->Prop)(w:World)(d:D)(v:Value):Prop:=
 ∀w':World,(∀b,b < w.heap.size->¬M b->w'.heap[b]? =w.heap[b]?)->Be S w' d v
def Lf.jI {D:Type}:Lf D->Bool
 | .bool _ | .int _ _ | .str _ | .dat _ | .Xa _=>true
 | _=>false
def Dl.Rel {D:Type}(S:Sh D)(M:Nat->Prop)(w:World):Dl D->Value->Prop
 | .bool b,v=>v= .bool b
 | .int k n,v=>v= .int k n
 | .str s,v=>v= .string ⟨s.toArray⟩/\s.length<=9223372036854775807
 | .dat d,v=>dA S M w d v
 | .aFL,v=>v= .slice none 0 0
def uX {D:Type}(S:Sh D)(M:Nat->Prop)(w:World):List (Dl D)->List Value->Prop
 | [],[]=>True
 | x::xs,v::vs=>x.Rel S M w v/\uX S M w xs vs
 | _,_=>False
def OV {D:Type}(S:Sh D)(M:Nat->Prop)(w:World):Bool->List (Dl D)->Value->Prop
 | false,[x],u=>x.Rel S M w u
 | true,xs,u=>∃vs:List Value,u= .agg vs.toArray/\uX S M w xs vs
 | _,_,_=>False
def Xt.Rel {D:Type}(S:Sh D)(M:Nat->Prop)(w:World):Xt D->Value->Prop
 | .ifd t ag xs,v=>∃u,v= .iface t u/\OV S M w ag xs u
 | .clo f ag xs,v=>∃u,v= .func (.func f) #[u] #[]/\OV S M w ag xs u
 | .clip d,v=>∃a,v= .slice a (S.len d) (S.len d)/\dA S M w d v
def Lf.Rel {D:Type}(S:Sh D)(M:Nat->Prop)(w:World)(g:Nat->Option Value):Lf D->Value->Prop
 | .any,_=>True
 | .val x,v=>v=x
 | .bool b,v=>v= .bool b
 | .int k n,v=>v= .int k n
 | .str s,v=>v= .string ⟨s.toArray⟩/\s.length<=9223372036854775807
 | .ptr l o,v=>∃b,g l=some (.pointer (some ⟨b,0,none⟩))/\v= .pointer (some ⟨b,o,none⟩)
 | .dat d,v=>dA S M w d v
 | .elt d i j,v=>∃a n cap,dA S M w d (.slice (some a) n cap)/\i < S.len d/\v= .pointer (some (a.add (i*S.size d+j)))
 | .fn f caps,v=>∃vs:List Value,v= .func (.func f) #[] vs.toArray/\caps.map g=vs.map some
 | .own l,v=>g l=some v
 | .opt l i j sz,v=>∃b n cap,g l=some (.slice (some ⟨b,0,none⟩) n cap)/\v= .pointer (some ⟨b,i*sz+j,none⟩)
 | .unk p,v=>∃b,v= .bool b/\p b
 | .part l i j sz f,v=>∃a n cap,g l=some (.slice a n cap)/\v=sliced a i j cap sz/\i<=j/\j<=n/\f=YK S sz i j
 | .glb i,v=>v= .pointer (some ⟨i,0,none⟩)
 | .Xa x,v=>v=C9 x/\ap8 x
 | .xt e,v=>e.Rel S M w v
def aY {D:Type}(S:Sh D)(M:Nat->Prop)(w:World)(g:Nat->Option Value):List (Lf D)->List Value->Prop
 | [],[]=>True
 | x::xs,v::vs=>x.Rel S M w g v/\aY S M w g xs vs
 | _,_=>False
def Sv.Rel {D:Type}(S:Sh D)(M:Nat->Prop)(w:World)(g:Nat->Option Value):Sv D->Value->Prop
 | .lf x,v=>x.Rel S M w g v
 | .agg xs,v=>∃vs:List Value,v= .agg vs.toArray/\aY S M w g xs vs
def iM {D:Type}(S:Sh D)(M:Nat->Prop)(w:World)(g:Nat->Option Value):List (Sv D)->List Value->Prop
 | [],[]=>True
 | x::xs,v::vs=>x.Rel S M w g v/\iM S M w g xs vs
 | _,_=>False
def Sl.Rel {D:Type}(S:Sh D)(M:Nat->Prop)(w:World)(g:Nat->Option Value):Sl D->Value->Prop
 | .one x,v=>x.Rel S M w g v
 | .yD xs,v=>∃vs:List Value,v= .tuple vs.toArray/\iM S M w g xs vs
structure Keeps (M:Nat->Prop)(w:World)(M':Nat->Prop)(w':World):Prop where
 size:w.heap.size<=w'.heap.size
 same:∀b,b < w.heap.size->¬M b->¬M' b/\w'.heap[b]? =w.heap[b]?
section
variable {D:Type}{S:Sh D}{M M':Nat->Prop}{w w':World}{g g':Nat->Option Value}
theorem dA.keep {d:D}{v:Value}(h:dA S M w d v)(k:Keeps M w M' w'):dA S M' w' d v:=fun w'' hs=>
 h w'' fun b hb hm=>(hs b (Qck hb k.size) (k.same b hb hm).1).trans (k.same b hb hm).2
theorem Dl.Rel.keep {x:Dl D}{v:Value}(h:x.Rel S M w v)(k:Keeps M w M' w'):x.Rel S M' w' v:=by
 cases x with
 | dat d=>exact dA.keep h k
 | _=>exact h
theorem uX.keep:∀{xs:List (Dl D)} {vs:List Value},uX S M w xs vs->Keeps M w M' w'->uX S M' w' xs vs
 | [],[],_,_=>trivial
 | x::xs,v::vs,h,k=>⟨h.1.keep k,uX.keep h.2 k⟩
theorem OV.keep:∀{ag:Bool} {xs:List (Dl D)} {u:Value},OV S M w ag xs u->Keeps M w M' w'->OV S M' w' ag xs u
 | false,[x],u,h,k=>Dl.Rel.keep h k
 | true,xs,u,h,k=>by obtain⟨vs,h1,h2⟩:=h;exact⟨vs,h1,h2.keep k⟩
theorem Xt.Rel.keep {e:Xt D}{v:Value}(h:e.Rel S M w v)(k:Keeps M w M' w'):e.Rel S M' w' v:=by
 cases e with
 | ifd t ag xs=>obtain⟨u,h1,h2⟩:=h;exact⟨u,h1,h2.keep k⟩
 | clo f ag xs=>obtain⟨u,h1,h2⟩:=h;exact⟨u,h1,h2.keep k⟩
 | clip d=>obtain⟨a,h1,h2⟩:=h;exact⟨a,h1,dA.keep h2 k⟩
theorem dA.mono {d:D}{v:Value}{M₁:Nat->Prop}(h:dA S M w d v)(hm:∀b,M₁ b->M b):dA S M₁ w d v:=fun w'' hs=>h w'' fun b hb hn=>hs b hb fun h1=>hn (hm b h1)
theorem Dl.Rel.mono {M₁:Nat->Prop}{x:Dl D}{v:Value}(h:x.Rel S M w v)(hm:∀b,M₁ b->M b):x.Rel S M₁ w v:=by
 cases x with
 | dat d=>exact dA.mono h hm
 | _=>exact h
theorem uX.mono {M₁:Nat->Prop}(hm:∀b,M₁ b->M b):∀{xs:List (Dl D)} {vs:List Value},uX S M w xs vs->uX S M₁ w xs vs
 | [],[],_=>trivial
 | x::xs,v::vs,h=>⟨h.1.mono hm,uX.mono hm h.2⟩
theorem OV.mono {M₁:Nat->Prop}(hm:∀b,M₁ b->M b):∀{ag:Bool} {xs:List (Dl D)} {u:Value},OV S M w ag xs u->OV S M₁ w ag xs u
 | false,[x],u,h=>Dl.Rel.mono h hm
 | true,xs,u,h=>by obtain⟨vs,h1,h2⟩:=h;exact⟨vs,h1,h2.mono hm⟩
theorem Xt.Rel.mono {M₁:Nat->Prop}{e:Xt D}{v:Value}(h:e.Rel S M w v)(hm:∀b,M₁ b->M b):e.Rel S M₁ w v:=by
 cases e with
 | ifd t ag xs=>obtain⟨u,h1,h2⟩:=h;exact⟨u,h1,h2.mono hm⟩
 | clo f ag xs=>obtain⟨u,h1,h2⟩:=h;exact⟨u,h1,h2.mono hm⟩
 | clip d=>obtain⟨a,h1,h2⟩:=h;exact⟨a,h1,dA.mono h2 hm⟩
def acQ (S:Sh D)(M:Nat->Prop)(w:World):Prop:=∀i d,S.OY i=some d->dA S M w d (.slice (some ⟨i,0,none⟩) (S.len d) (S.len d))
theorem acQ.keep (h:acQ S M w)(k:Keeps M w M' w'):acQ S M' w':=fun i d hd=>(h i d hd).keep k
theorem acQ.mono {M₁:Nat->Prop}(h:acQ S M w)(hm:∀b,M₁ b->M b):acQ S M₁ w:=fun i d hd=>(h i d hd).mono hm
def More (g g':Nat->Option Value):Prop:=∀l v,g l=some v->g' l=some v
theorem More.refl (g:Nat->Option Value):More g g:=fun _ _ h=>h
theorem More.map:∀{caps:List Nat} {vs:List Value},More g g'->caps.map g=vs.map some->caps.map g'=vs.map some
 | [],[],_,_=>rfl
 | c::caps,v::vs,m,h=>by
  simp only[DT,Qdh]at h⊢;exact⟨m _ _ h.1,More.map m h.2⟩
 | [],_::_,_,h=>by simp at h
 | _::_,[],_,h=>by simp at h
theorem Lf.Rel.keep {x:Lf D}{v:Value}(h:x.Rel S M w g v)(k:Keeps M w M' w')(m:More g g'):x.Rel S M' w' g' v:=by
 cases x with
 | any=>trivial
 | val x=>exact h
 | bool b=>exact h
 | int k n=>exact h
 | str s=>exact h
 | ptr l o=>obtain⟨b,h1,h2⟩:=h;exact⟨b,m _ _ h1,h2⟩
 | dat d=>exact dA.keep h k
 | elt d i j=>obtain⟨a,n,cap,h1,h2⟩:=h;exact⟨a,n,cap,h1.keep k,h2⟩
 | fn f caps=>obtain⟨vs,h1,h2⟩:=h;exact⟨vs,h1,More.map m h2⟩
 | own l=>exact m _ _ h
 | opt l i j sz=>obtain⟨b,n,cap,h1,h2⟩:=h;exact⟨b,n,cap,m _ _ h1,h2⟩
 | unk p=>exact h
 | part l i j sz f=>obtain⟨a,n,cap,h1,h2⟩:=h;exact⟨a,n,cap,m _ _ h1,h2⟩
 | glb i=>exact h
 | Xa x=>exact h
 | xt e=>exact Xt.Rel.keep h k
theorem aY.keep:∀{xs:List (Lf D)} {vs:List Value},aY S M w g xs vs->Keeps M w M' w'->More g g'->aY S M' w' g' xs vs
 | [],[],_,_,_=>trivial
 | x::xs,v::vs,h,k,m=>⟨h.1.keep k m,aY.keep h.2 k m⟩
theorem aY.length:∀{xs:List (Lf D)} {vs:List Value},aY S M w g xs vs->xs.length=vs.length
 | [],[],_=>rfl
 | _::_,_::_,h=>by simp[aY.length h.2]
theorem aY.get:∀{xs:List (Lf D)} {vs:List Value} (i:Nat) {x:Lf D},aY S M w g xs vs->xs[i]? =some x->∃v,vs[i]? =some v/\x.Rel S M w g v
 | [],[],i,x,_,h=>by simp at h
 | y::xs,v::vs,0,x,h,e=>⟨v,rfl,by simp at e;exact e▸h.1⟩
 | y::xs,v::vs,i+1,x,h,e=>by simpa using aY.get i h.2 (by simpa using e)
theorem Sv.Rel.keep {x:Sv D}{v:Value}(h:x.Rel S M w g v)(k:Keeps M w M' w')(m:More g g'):x.Rel S M' w' g' v:=by
 cases x with
 | lf x=>exact Lf.Rel.keep h k m
 | agg xs=>obtain⟨vs,rfl,hr⟩:=h;exact⟨vs,rfl,hr.keep k m⟩
theorem iM.keep:∀{xs:List (Sv D)} {vs:List Value},iM S M w g xs vs->Keeps M w M' w'->More g g'->iM S M' w' g' xs vs
 | [],[],_,_,_=>trivial
 | x::xs,v::vs,h,k,m=>⟨h.1.keep k m,iM.keep h.2 k m⟩
theorem iM.get:∀{xs:List (Sv D)} {vs:List Value} (i:Nat) {x:Sv D},iM S M w g xs vs->xs[i]? =some x->∃v,vs[i]? =some v/\x.Rel S M w g v
 | [],[],i,x,_,h=>by simp at h
 | y::xs,v::vs,0,x,h,e=>⟨v,rfl,by simp at e;exact e▸h.1⟩
 | y::xs,v::vs,i+1,x,h,e=>by simpa using iM.get i h.2 (by simpa using e)
theorem iM.length:∀{xs:List (Sv D)} {vs:List Value},iM S M w g xs vs->xs.length=vs.length
 | [],[],_=>rfl
 | _::_,_::_,h=>by simp[iM.length h.2]
theorem Sl.Rel.keep {x:Sl D}{v:Value}(h:x.Rel S M w g v)(k:Keeps M w M' w')(m:More g g'):x.Rel S M' w' g' v:=by
 cases x with
 | one x=>exact Sv.Rel.keep h k m
 | yD xs=>obtain⟨vs,rfl,hr⟩:=h;exact⟨vs,rfl,hr.keep k m⟩
theorem dA.cell {d:D}{a:Addr}{n cap i j:Nat}(h:dA S M w d (.slice (some a) n cap))(hi:i < S.len d)(hj:j < S.size d):
  ∃u,w.cell? (a.add (i*S.size d+j))=some u/\(S.cell d i j).Rel S M w g u:=by
 classical
 let wx:World:={w with heap:=(Array.range w.heap.size).map fun b=>if M b then Obj.map #[] 0 else(w.heap[b]?).getD (Obj.map #[] 0)}
 have hwx:∀b,b < w.heap.size->¬M b->wx.heap[b]? =w.heap[b]? :=by
  intro b hb hm;simp[wx,hb,hm]
 have hout:∀p:Addr,(wx.cell? p).isSome=true->p.block < w.heap.size/\¬M p.block:=by
  intro p hp;simp only[World.cell?,wx]at hp;by_cases hb:p.block < w.heap.size
  ·refine⟨hb,fun hm=> ?_⟩;simp[hb,hm]at hp
  ·simp[hb]at hp
 have key:∀w':World,(∀b,b < w.heap.size->¬M b->w'.heap[b]? =w.heap[b]?)->∃u,w'.cell? (a.add (i*S.size d+j))=some u/\Lf.plain (S.cell d i j) u/\∀d',S.cell d i j= .dat d'->Be S w' d' u:=by
  intro w' hs;generalize hv:Value.slice (some a) n cap=v at h;have hd:=h w' hs;cases hd with
  | mp d m v hm hl hz h=>omega
  | mk d hno a' cap' U hcap hlen hcell hpl hdat=>
   injection hv with h1 h2 h3
   obtain⟨ad,had,hc⟩:=hcell i j hi hj;rw[<-h1]at had;injection had with had
   subst had;exact⟨U i j,hc,hpl i j hi hj,fun d' hd'=>hdat i j d' hi hj hd'⟩
 obtain⟨ux,hux,_⟩:=key wx hwx;obtain⟨hb,hm⟩:=hout _ (by rw[hux];rfl);obtain⟨u,hu,hpl,hdt⟩:=key w (fun _ _ _=>rfl);refine⟨u,hu,?_⟩;generalize hx:S.cell d i j=x at*;cases x with
 | val x=>exact hpl
 | bool b=>exact hpl
 | int k n=>exact hpl
 | str s=>exact hpl
 | dat d'=>
  intro w' hs;obtain⟨u',hu',_,hdt'⟩:=key w' hs;have:u'=u:=by
   have e:w'.cell? (a.add (i*S.size d+j))=w.cell? (a.add (i*S.size d+j)):=by
    simp only[World.cell?,hs _ hb hm]
   rw[e,hu]at hu';injection hu' with hu'
   exact hu'.symm
  rw[<-this];exact hdt' d' rfl
 | any=>exact hpl.elim
 | ptr l o=>exact hpl.elim
 | elt d' i' j'=>exact hpl.elim
 | fn f caps=>exact hpl.elim
 | own l=>exact hpl.elim
 | opt l i j sz=>exact hpl.elim
 | unk p=>exact hpl.elim
 | part l i j sz f=>exact hpl.elim
 | glb i=>exact hpl.elim
 | Xa x=>exact hpl
 | xt e=>exact hpl.elim
theorem dA.slice {d:D}{v:Value}(h:dA S M w d v)(hz:0 < S.size d):∃a cap,v= .slice a (S.len d) cap/\S.len d<=cap:=by
 have hd:=h w (fun _ _ _=>rfl);cases hd with
 | mp d m v hm hl hz' h=>omega
 | mk d hno a cap U hcap hlen hcell hpl hdat=>exact⟨a,cap,rfl,hcap⟩
theorem dA.slice' {d:D}{v:Value}(h:dA S M w d v)(hz:S.mp d=none):∃a cap,v= .slice a (S.len d) cap/\S.len d<=cap:=by
 have hd:=h w (fun _ _ _=>rfl);cases hd with
 | mp d m v hm hl hz' h=>rw[hz]at hm;cases hm
 | mk d hno a cap U hcap hlen hcell hpl hdat=>exact⟨a,cap,rfl,hcap⟩
theorem dA.form {d:D}{v:Value}(h:dA S M w d v):(∃a cap,v= .slice a (S.len d) cap)\/∃r,v= .map r:=by
 have hd:=h w (fun _ _ _=>rfl);cases hd with
 | mp d m v hm hl hz' h=>rcases h.2 with⟨h,_⟩ | ⟨b,_,_,h,_⟩<;>exact .inr ⟨_,h⟩
 | mk d hno a cap U hcap hlen hcell hpl hdat=>exact .inl ⟨a,cap,rfl⟩
theorem dA.map {d:D}{v:Value}{m:Mp D}(h:dA S M w d v)(hm:S.mp d=some m):api w m.agg m.kvs v:=by
 have hd:=h w (fun _ _ _=>rfl);cases hd with
 | mp d m' v hm' hl hz' h=>rw[hm]at hm';injection hm' with e;exact e▸h
 | mk d hno a cap U hcap hlen hcell hpl hdat=>rw[hm]at hno;cases hno
theorem dA.ajb {d:D}{v:Value}(h:dA S M w d v):S.len d<=9223372036854775807:=by
 have hd:=h w (fun _ _ _=>rfl);cases hd with
 | mp d m v hm hl hz h=>omega
 | mk d hno a cap U hcap hlen hcell hpl hdat=>exact hlen
theorem dA.Bi {d:D}{a:Option Addr}{n cap i:Nat}(h:dA S M w d (.slice a n cap))(hi:i < S.len d)(hs:0 < S.size d):∃ad,a=some ad:=by
 generalize hv:Value.slice a n cap=v at h;have hd:=h w (fun _ _ _=>rfl);cases hd with
 | mp d m v hm hl hz h=>omega
 | mk d hno a' cap' U hcap hlen hcell hpl hdat=>
  injection hv with h1 h2 h3
  obtain⟨ad,had,_⟩:=hcell i 0 hi hs;exact⟨ad,h1.trans had⟩
end
end Go.Vc
namespace Go.Vc
open Go.RowKit
def upd {α:Type}(f:Nat->α)(k:Nat)(v:α):Nat->α:=fun n=>if n=k then v else f n
theorem upd_same {α:Type}(f:Nat->α)(k:Nat)(v:α):upd f k v k=v:=by simp[upd]
theorem bP {α:Type}(f:Nat->α)(k n:Nat)(v:α)(h:n≠k):upd f k v n=f n:=by simp[upd,h]
def dY:Value->Option Nat
 | .pointer (some a)=>some a.block
 | .slice (some a) _ _=>some a.block
 | .map (some r)=>some r
 | _=>none
def isRef:Value->Bool
 | .pointer _ | .slice _ _ _ | .map _=>true
 | _=>false
structure Bs where
 w:World
 X:Nat->Prop
def Bs.Mine (B:Bs)(b:Nat):Prop:=B.w.heap.size<=b\/B.X b
structure FN (B:Bs)(w':World):Prop where
 os:w'.os=B.w.os
 tape:w'.tape=B.w.tape
 output:w'.output=B.w.output
 size:B.w.heap.size<=w'.heap.size
 block:∀k,k < B.w.heap.size->¬B.X k->w'.heap[k]? =B.w.heap[k]?
theorem FN.refl (B:Bs):FN B B.w:=⟨rfl,rfl,rfl,l9 _,fun _ _ _=>rfl⟩
theorem FN.grow {B:Bs}{w w':World}(h:FN B w)(k:Below w.heap.size w w'):FN B w':=
 ⟨k.os.trans h.os,k.tape.trans h.tape,k.output.trans h.output,zO h.size k.size,fun i hi hx=>(k.block i (Qck hi h.size)).trans (h.block i hi hx)⟩
def hot {D:Type}:Option (Bk D)->Bool
 | some (.cells _)=>true
 | some (.row _ _)=>true
 | some (.iter _ _)=>true
 | some (.map _)=>true
 | some (.tc _ _)=>true
 | _=>false
def azT (w:World)(b:Nat)(t:TypeId)(vs:List Value):Prop:=
 ∃u0,w.heap[b]? =some (.cells (List.toArray (u0::vs)) t (0,0))/\(u0= .pointer none\/u0= .pointer (some ⟨b,0,none⟩))
theorem azT.same {w w':World}{b:Nat}{t:TypeId}{vs:List Value}(h:azT w b t vs)(e:w'.heap[b]? =w.heap[b]?):azT w' b t vs:=by
 obtain⟨u0,h1,h2⟩:=h;exact⟨u0,e.trans h1,h2⟩
def yL {D:Type}(S:Sh D)(M:Nat->Prop)(w:World)(g:Nat->Option Value)(B:Bs):Bk D->Value->Prop
 | .cells cs,v=>∃b vs t,v= .pointer (some ⟨b,0,none⟩)/\B.Mine b/\w.heap[b]? =some (.cells (List.toArray vs) t (0,0))/\aY S M w g cs vs
 | .xw d,v=>dA S M w d v
 | .iter s p,v=>s.length<=9223372036854775807/\∃b,v= .pointer (some ⟨b,0,none⟩)/\B.Mine b/\w.heap[b]? =some (.stringIter ⟨s.toArray⟩ p)
 | .map d,v=>∃m b es n,S.mp d=some m/\(∀p∈m.kvs,p.1.fits/\∀x∈p.2,x.fits)/\v= .map (some b)/\B.Mine b/\w.heap[b]? =some (.map es n)/\es.toList.map (fun e=>(e.key,e.val))=m.kvs.map fun p=>(p.1.val,sH m.agg p.2)
 | .tc t cs,v=>∃b vs,v= .pointer (some ⟨b,0,none⟩)/\B.Mine b/\azT w b t vs/\aY S M w g cs vs
 | .row e d,v=>((∀b,dY v=some b->B.Mine b)/\S.len d<=9223372036854775807/\S.mp d=none)/\∃xs,w.ownsRow 0 e (S.size d) v (S.len d) xs/\
   ∀i j,i < S.len d->j < S.size d->∃u,xs[i*S.size d+j]? =some u/\(S.cell d i j).jI=true/\(S.cell d i j).Rel S M w g u
def aT {D:Type}(N:Nat->Prop)(blk:Nat->Option (Bk D))(g:Nat->Option Value):Nat->Prop:=
 fun b=>N b\/∃l v,hot (blk l)=true/\g l=some v/\dY v=some b
structure Hp {D:Type}(S:Sh D)(w0:Bs)(N:Nat->Prop)(blk:Nat->Option (Bk D))(g:Nat->Option Value)(al:Nat->Prop)(w:World):Prop where
 below:FN w0 w
 hN:∀b,N b->b < w0.w.heap.size/\¬w0.X b
 dE:∀l bk,blk l=some bk->∃v,g l=some v/\yL S (aT N blk g) w g w0 bk v
 sep:∀l l' v v' b,hot (blk l)=true->hot (blk l')=true->g l=some v->g l'=some v'->dY v=some b->dY v'=some b->l=l'
 al:∀l v,g l=some v->al l
 refs:∀l v,g l=some v->isRef v=true
 gl:acQ S (aT N blk g) w
section
variable {D:Type}{S:Sh D}{M M' N:Nat->Prop}{w w':World}{w0:Bs}{g g':Nat->Option Value}{blk:Nat->Option (Bk D)}{al:Nat->Prop}{B:Bs}
theorem tZ {w:World}{b:Nat}{o:Obj}(h:w.heap[b]? =some o):b < w.heap.size:=by
 rcases Qdf b w.heap.size with hl | hl
 ·exact hl
 ·rw[Qd5 hl]at h;cases h
theorem yL.lt {bk:Bk D}{v:Value}{b:Nat}(h:yL S M w g B bk v)(hh:hot (some bk)=true)(hb:dY v=some b):b < w.heap.size/\B.Mine b:=by
 cases bk with
 | cells cs=>
  obtain⟨b',vs,t,rfl,hB,hh,_⟩:=h;simp only[dY,Nb]at hb;subst hb;exact⟨tZ hh,hB⟩
 | row e d=>
  obtain⟨hm,xs,⟨_,h⟩,_⟩:=h;rcases h with⟨rfl,_⟩ | ⟨g',cap,cur,rfl,hB,hh,_⟩
  ·simp[dY]at hb
  ·have:=hm.1 b hb;simp only[dY,Nb]at hb;subst hb;exact⟨tZ hh,this⟩
 | xw d=>simp[hot]at hh
 | iter s p=>
  obtain⟨_,b',rfl,hB,hh⟩:=h;simp only[dY,Nb]at hb;subst hb;exact⟨tZ hh,hB⟩
 | map d=>
  obtain⟨m,b',es,n,_,_,rfl,hB,hh,_⟩:=h;simp only[dY,Nb]at hb;subst hb;exact⟨tZ hh,hB⟩
 | tc t cs=>
  obtain⟨b',vs,rfl,hB,⟨u0,hh,_⟩,_⟩:=h;simp only[dY,Nb]at hb;subst hb;exact⟨tZ hh,hB⟩
theorem yL.isRef {bk:Bk D}{v:Value}(h:yL S M w g B bk v):isRef v=true:=by
 cases bk with
 | cells cs=>obtain⟨b',vs,t,rfl,_⟩:=h;rfl
 | row e d=>
  obtain⟨_,xs,⟨_,h⟩,_⟩:=h;rcases h with⟨rfl,_⟩ | ⟨g',cap,cur,rfl,_⟩<;>rfl
 | xw d=>
  rcases dA.form h with⟨a,cap,rfl⟩ | ⟨r,rfl⟩<;>rfl
 | iter s p=>obtain⟨_,b',rfl,_⟩:=h;rfl
 | map d=>obtain⟨m,b',es,n,_,_,rfl,_⟩:=h;rfl
 | tc t cs=>obtain⟨b',vs,rfl,_⟩:=h;rfl
theorem yL.keep {bk:Bk D}{v:Value}(h:yL S M w g B bk v)(k:Keeps M w M' w')(m:More g g')(hb:hot (some bk)=true->∀b,dY v=some b->w'.heap[b]? =w.heap[b]?):yL S M' w' g' B bk v:=by
 cases bk with
 | cells cs=>
  obtain⟨b,vs,t,rfl,hB,hh,hr⟩:=h;exact⟨b,vs,t,rfl,hB,(hb rfl b rfl).trans hh,hr.keep k m⟩
 | row e d=>
  obtain⟨hm,xs,⟨hl,h⟩,hc⟩:=h;refine⟨hm,xs,⟨hl,?_⟩,fun i j hi hj=> ?_⟩
  ·rcases h with h | ⟨g',cap,cur,rfl,hB,hh,hrest⟩
   ·exact .inl h
   ·exact .inr ⟨g',cap,cur,rfl,hB,(hb rfl g' rfl).trans hh,hrest⟩
  ·obtain⟨u,h1,h2,h3⟩:=hc i j hi hj;exact⟨u,h1,h2,h3.keep k m⟩
 | xw d=>exact dA.keep h k
 | iter s p=>
  obtain⟨hl,b,rfl,hB,hh⟩:=h;exact⟨hl,b,rfl,hB,(hb rfl b rfl).trans hh⟩
 | map d=>
  obtain⟨m,b,es,n,hm,hf,rfl,hB,hh,hr⟩:=h;exact⟨m,b,es,n,hm,hf,rfl,hB,(hb rfl b rfl).trans hh,hr⟩
 | tc t cs=>
  obtain⟨b,vs,rfl,hB,hh,hr⟩:=h;exact⟨b,vs,rfl,hB,hh.same (hb rfl b rfl),hr.keep k m⟩
theorem jK {x:Option (Bk D)}(h:hot x=true):∃bk,x=some bk/\hot (some bk)=true:=by
 cases x with
 | none=>simp[hot]at h
 | some bk=>exact⟨bk,rfl,h⟩
theorem Keeps.refl (M:Nat->Prop)(w:World):Keeps M w M w:=⟨l9 _,fun _ _ h=>⟨h,rfl⟩⟩
theorem Hp.at (h:Hp S w0 N blk g al w){l:Nat}{v:Value}(h1:hot (blk l)=true)(h2:g l=some v):∃bk,blk l=some bk/\hot (some bk)=true/\yL S (aT N blk g) w g w0 bk v:=by
 obtain⟨bk,hbk,hh⟩:=jK h1;obtain⟨v',hv',hok⟩:=h.dE l bk hbk;rw[h2]at hv';injection hv' with hv'
 subst hv';exact⟨bk,hbk,hh,hok⟩
theorem Hp.mlt (h:Hp S w0 N blk g al w){b:Nat}(hb:aT N blk g b):b < w.heap.size:=by
 rcases hb with hb | ⟨l,v,h1,h2,h3⟩
 ·exact Qck (h.hN b hb).1 h.below.size
 ·obtain⟨bk,_,hh,hok⟩:=h.at h1 h2;exact(hok.lt hh h3).1
theorem Hp.grow (h:Hp S w0 N blk g al w)(hb:Below w.heap.size w w'):Hp S w0 N blk g al w'/\Keeps (aT N blk g) w (aT N blk g) w':=by
 have hk:Keeps (aT N blk g) w (aT N blk g) w':=⟨hb.size,fun b hlt hm=>⟨hm,hb.block b hlt⟩⟩;refine⟨⟨h.below.grow hb,h.hN,fun l bk hl=> ?_,h.sep,h.al,h.refs,h.gl.keep hk⟩,hk⟩;obtain⟨v,hv,hok⟩:=h.dE l bk hl;exact⟨v,hv,hok.keep hk (More.refl _) fun hh b hbv=>hb.block b (hok.lt hh hbv).1⟩
theorem Hp.add (h:Hp S w0 N blk g al w)(hb:Below w.heap.size w w'){l:Nat}{bk:Bk D}{v:Value}(hl:¬al l)(hv:∀b,dY v=some b->w.heap.size<=b)
  (hok:∀M',Keeps (aT N blk g) w M' w'->(∀c,M' c->aT N blk g c\/dY v=some c)->yL S M' w' (upd g l (some v)) w0 bk v):
  Hp S w0 N (upd blk l (some bk)) (upd g l (some v)) (fun n=>al n\/n=l) w'/\Keeps (aT N blk g) w (aT N (upd blk l (some bk)) (upd g l (some v))) w'/\More g (upd g l (some v)):=by
 have hgl:g l=none:=by
  cases hg:g l with
  | none=>rfl
  | some u=>exact absurd (h.al l u hg) hl
 have hbl:blk l=none:=by
  cases hx:blk l with
  | none=>rfl
  | some bk'=>
   obtain⟨u,hu,_⟩:=h.dE l bk' hx;rw[hgl]at hu;cases hu
 have hm:More g (upd g l (some v)):=fun n u hn=>by
  rw[bP _ _ _ _ (by rintro rfl;rw[hgl]at hn;cases hn)];exact hn
 have hk:Keeps (aT N blk g) w (aT N (upd blk l (some bk)) (upd g l (some v))) w':=by
  refine⟨hb.size,fun b hlt hmb=>⟨?_,hb.block b hlt⟩⟩;rintro(hnb | ⟨l',u,h1,h2,h3⟩)
  ·exact hmb (.inl hnb)
  ·by_cases he:l'=l
   ·subst he;rw[upd_same]at h2;injection h2 with h2
    subst h2;exact absurd (hv b h3) au
   ·rw[bP _ _ _ _ he]at h1 h2;exact hmb (.inr ⟨l',u,h1,h2,h3⟩)
 have hM':∀c,aT N (upd blk l (some bk)) (upd g l (some v)) c->aT N blk g c\/dY v=some c:=by
  rintro c (hnb | ⟨l',u,h1,h2,h3⟩)
  ·exact .inl (.inl hnb)
  ·by_cases he:l'=l
   ·subst he;rw[upd_same]at h2;injection h2 with h2
    subst h2;exact .inr h3
   ·rw[bP _ _ _ _ he]at h1 h2;exact .inl (.inr ⟨l',u,h1,h2,h3⟩)
 refine⟨⟨h.below.grow hb,h.hN,fun l' bk' hl'=> ?_,?_,?_,?_,h.gl.keep hk⟩,hk,hm⟩
 ·by_cases he:l'=l
  ·subst he;rw[upd_same]at hl';injection hl' with hl'
   subst hl';exact⟨v,upd_same _ _ _,hok _ hk hM'⟩
  ·rw[bP _ _ _ _ he]at hl'⊢;obtain⟨u,hu,WY⟩:=h.dE l' bk' hl';exact⟨u,hu,WY.keep hk hm fun hh b hbv=>hb.block b (WY.lt hh hbv).1⟩
 ·intro a b va vb c ha hb' hga hgb hca hcb;have old:∀n u c,n≠l->hot (upd blk l (some bk) n)=true->upd g l (some v) n=some u->dY u=some c->c < w.heap.size:=by
   intro n u c hn h1 h2 h3;rw[bP _ _ _ _ hn]at h1 h2;exact h.mlt (.inr ⟨n,u,h1,h2,h3⟩)
  by_cases hal:a=l
  ·by_cases Qw:b=l
   ·rw[hal,Qw]
   ·have h1:=old b vb c Qw hb' hgb hcb;subst hal;rw[upd_same]at hga;injection hga with hga
    subst hga;have:=hv c hca;omega
  ·by_cases Qw:b=l
   ·have h1:=old a va c hal ha hga hca;subst Qw;rw[upd_same]at hgb;injection hgb with hgb
    subst hgb;have:=hv c hcb;omega
   ·rw[bP _ _ _ _ hal]at ha hga;rw[bP _ _ _ _ Qw]at hb' hgb;exact h.sep a b va vb c ha hb' hga hgb hca hcb
 ·intro n u hn;by_cases he:n=l
  ·exact .inr he
  ·rw[bP _ _ _ _ he]at hn;exact .inl (h.al n u hn)
 ·intro n u hn;by_cases he:n=l
  ·subst he;rw[upd_same]at hn;injection hn with hn
   subst hn;exact(hok _ hk hM').isRef
  ·rw[bP _ _ _ _ he]at hn;exact h.refs n u hn
theorem Hp.write (h:Hp S w0 N blk g al w){l b:Nat}{bk bk':Bk D}{v:Value}(hl:blk l=some bk)(hh:hot (some bk)=true)(hh':hot (some bk')=true)(hg:g l=some v)(hv:dY v=some b)
  (hos:w'.os=w.os) (htp:w'.tape=w.tape) (hout:w'.output=w.output) (hsz:w'.heap.size=w.heap.size) (hsame:∀n,n≠b->w'.heap[n]? =w.heap[n]?)
  (hok:Keeps (aT N blk g) w (aT N blk g) w'->yL S (aT N blk g) w' g w0 bk' v):
  Hp S w0 N (upd blk l (some bk')) g al w'/\Keeps (aT N blk g) w (aT N (upd blk l (some bk')) g) w':=by
 have hsome:∀n,hot (upd blk l (some bk') n)=hot (blk n):=by
  intro n;by_cases he:n=l
  ·subst he;simp[upd_same,hl,hh,hh']
  ·rw[bP _ _ _ _ he]
 have hM:aT N (upd blk l (some bk')) g=aT N blk g:=by
  funext c;simp only[aT,hsome]
 have hmb:aT N blk g b:= .inr ⟨l,v,by rw[hl];exact hh,hg,hv⟩;obtain⟨v',hv',aJ5⟩:=h.dE l bk hl;rw[hg]at hv';injection hv' with hv'
 subst hv';have hbB:=(aJ5.lt hh hv).2;have hk:Keeps (aT N blk g) w (aT N blk g) w':=⟨Qdq hsz.symm,fun c _ hmc=>⟨hmc,hsame c (fun e=>hmc (e▸hmb))⟩⟩;refine⟨⟨⟨hos.trans h.below.os,htp.trans h.below.tape,hout.trans h.below.output,hsz▸h.below.size,fun k hk' hx=>(hsame k ?_).trans (h.below.block k hk' hx)⟩,h.hN,?_,?_,h.al,h.refs,by rw[hM];exact h.gl.keep hk⟩,hM▸hk⟩
 ·rintro rfl;rcases hbB with h1 | h1
  ·omega
  ·exact hx h1
 ·intro n bkn hn;rw[hM];by_cases he:n=l
  ·subst he;rw[upd_same]at hn;injection hn with hn
   subst hn;exact⟨v,hg,hok hk⟩
  ·rw[bP _ _ _ _ he]at hn;obtain⟨u,hu,WY⟩:=h.dE n bkn hn;refine⟨u,hu,WY.keep hk (More.refl _) fun hhn c hc=>hsame c ?_⟩;rintro rfl;exact he (h.sep n l u v c (by rw[hn];exact hhn) (by rw[hl];exact hh) hu hg hc hv)
 ·intro a c va vc d ha hc;rw[hsome]at ha hc;exact h.sep a c va vc d ha hc
theorem Hp.aIE (h:Hp S w0 N blk g al w)(l:Nat)(x:Option (Bk D))(hx:hot x=false)(hok:∀bk,x=some bk->∃v,g l=some v/\yL S (aT N (upd blk l x) g) w g w0 bk v):
  Hp S w0 N (upd blk l x) g al w/\Keeps (aT N blk g) w (aT N (upd blk l x) g) w:=by
 have hsub:∀n,hot (upd blk l x n)=true->hot (blk n)=true:=by
  intro n hn;by_cases he:n=l
  ·subst he;rw[upd_same,hx]at hn;cases hn
  ·rwa [bP _ _ _ _ he]at hn
 have hk:Keeps (aT N blk g) w (aT N (upd blk l x) g) w:=by
  refine⟨l9 _,fun b _ hm=>⟨?_,rfl⟩⟩;rintro(hn | ⟨n,u,h1,h2,h3⟩)
  ·exact hm (.inl hn)
  ·exact hm (.inr ⟨n,u,hsub n h1,h2,h3⟩)
 refine⟨⟨h.below,h.hN,fun n bk hn=> ?_,fun a c va vc d ha hc=>h.sep a c va vc d (hsub a ha) (hsub c hc),h.al,h.refs,h.gl.keep hk⟩,hk⟩;by_cases hne:n=l
 ·subst hne;rw[upd_same]at hn;exact hok bk hn
 ·rw[bP _ _ _ _ hne]at hn;obtain⟨u,hu,WY⟩:=h.dE n bk hn;exact⟨u,hu,WY.keep hk (More.refl _) fun _ _ _=>rfl⟩
theorem Hp.move (h:Hp S w0 N blk g al w){l fr:Nat}{bk':Bk D}{v v':Value}(hl:hot (blk l)=true)(hg:g l=some v)(hfr:¬al fr)
  (hos:w'.os=w.os) (htp:w'.tape=w.tape) (hout:w'.output=w.output) (hsz:w.heap.size<=w'.heap.size) (hsame:∀n,n < w.heap.size->dY v≠some n->w'.heap[n]? =w.heap[n]?)
  (hv':∀b,dY v'=some b->dY v=some b\/w.heap.size<=b)
  (hok:∀M',Keeps (aT N blk g) w M' w'->(∀c,M' c->aT N blk g c\/dY v'=some c)->yL S M' w' (upd g fr (some v')) w0 bk' v'):
  Hp S w0 N (upd (upd blk l none) fr (some bk')) (upd g fr (some v')) (fun n=>al n\/n=fr) w'/\Keeps (aT N blk g) w (aT N (upd (upd blk l none) fr (some bk')) (upd g fr (some v'))) w'/\More g (upd g fr (some v')):=by
 have hgl:g fr=none:=by
  cases hg:g fr with
  | none=>rfl
  | some u=>exact absurd (h.al fr u hg) hfr
 have hm:More g (upd g fr (some v')):=fun n u hn=>by
  rw[bP _ _ _ _ (by rintro rfl;rw[hgl]at hn;cases hn)];exact hn
 have hsub:∀n,n≠fr->hot (upd (upd blk l none) fr (some bk') n)=true->n≠l/\hot (blk n)=true:=by
  intro n hn h1;rw[bP _ _ _ _ hn]at h1;by_cases he:n=l
  ·subst he;rw[upd_same]at h1;simp[hot]at h1
  ·rw[bP _ _ _ _ he]at h1;exact⟨he,h1⟩
 have hM':∀c,aT N (upd (upd blk l none) fr (some bk')) (upd g fr (some v')) c->aT N blk g c\/dY v'=some c:=by
  rintro c (hnb | ⟨l',u,h1,h2,h3⟩)
  ·exact .inl (.inl hnb)
  ·by_cases he:l'=fr
   ·subst he;rw[upd_same]at h2;injection h2 with h2
    subst h2;exact .inr h3
   ·have h1':=(hsub l' he h1).2;rw[bP _ _ _ _ he]at h2;exact .inl (.inr ⟨l',u,h1',h2,h3⟩)
 have hmv:∀b,dY v=some b->aT N blk g b:=fun b hb=> .inr ⟨l,v,hl,hg,hb⟩
 have hk:Keeps (aT N blk g) w (aT N (upd (upd blk l none) fr (some bk')) (upd g fr (some v'))) w':=by
  refine⟨hsz,fun b hlt hmb=>⟨fun hb=> ?_,hsame b hlt fun e=>hmb (hmv b e)⟩⟩;rcases hM' b hb with h1 | h1
  ·exact hmb h1
  ·rcases hv' b h1 with h2 | h2
   ·exact hmb (hmv b h2)
   ·omega
 have DF:∀b,dY v=some b->w0.Mine b:=fun b hb=>by
  obtain⟨bk,_,hh,hok'⟩:=h.at hl hg;exact(hok'.lt hh hb).2
 refine⟨⟨⟨hos.trans h.below.os,htp.trans h.below.tape,hout.trans h.below.output,zO h.below.size hsz,fun k hk' hx=>(hsame k (Qck hk' h.below.size) ?_).trans (h.below.block k hk' hx)⟩,h.hN,fun n bkn hn=> ?_,?_,?_,?_,h.gl.keep hk⟩,hk,hm⟩
 ·intro e;rcases DF k e with h1 | h1
  ·omega
  ·exact hx h1
 ·by_cases he:n=fr
  ·subst he;rw[upd_same]at hn;injection hn with hn
   subst hn;exact⟨v',upd_same _ _ _,hok _ hk hM'⟩
  ·rw[bP _ _ _ _ he]at hn⊢;have hnl:n≠l:=by rintro rfl;rw[upd_same]at hn;cases hn
   rw[bP _ _ _ _ hnl]at hn;obtain⟨u,hu,WY⟩:=h.dE n bkn hn;refine⟨u,hu,WY.keep hk hm fun hh b hbv=>hsame b (WY.lt hh hbv).1 fun e=> ?_⟩;exact hnl (h.sep n l u v b (by rw[hn];exact hh) hl hu hg hbv e)
 ·have old:∀n u c,n≠fr->hot (upd (upd blk l none) fr (some bk') n)=true->upd g fr (some v') n=some u->dY u=some c->dY v'=some c->False:=by
   intro n u c hn h1 h2 h3 h4;obtain⟨hnl,h1⟩:=hsub n hn h1;rw[bP _ _ _ _ hn]at h2;rcases hv' c h4 with h5 | h5
   ·exact hnl (h.sep n l u v c h1 hl h2 hg h3 h5)
   ·have:=h.mlt (.inr ⟨n,u,h1,h2,h3⟩);omega
  intro a b va vb c ha hb' hga hgb hca hcb;by_cases hal:a=fr
  ·by_cases Qw:b=fr
   ·rw[hal,Qw]
   ·subst hal;rw[upd_same]at hga;injection hga with hga
    subst hga;exact(old b vb c Qw hb' hgb hcb hca).elim
  ·by_cases Qw:b=fr
   ·subst Qw;rw[upd_same]at hgb;injection hgb with hgb
    subst hgb;exact(old a va c hal ha hga hca hcb).elim
   ·have ha:=(hsub a hal ha).2;have hb':=(hsub b Qw hb').2;rw[bP _ _ _ _ hal]at hga;rw[bP _ _ _ _ Qw]at hgb;exact h.sep a b va vb c ha hb' hga hgb hca hcb
 ·intro n u hn;by_cases he:n=fr
  ·exact .inr he
  ·rw[bP _ _ _ _ he]at hn;exact .inl (h.al n u hn)
 ·intro n u hn;by_cases he:n=fr
  ·subst he;rw[upd_same]at hn;injection hn with hn
   subst hn;exact(hok _ hk hM').isRef
  ·rw[bP _ _ _ _ he]at hn;exact h.refs n u hn
end
end Go.Vc
namespace Go.Vc
open Go.RowKit
structure Ty where
 kind:Nat
 agg:Bool
 size:Nat
 bytes:Nat
 zero:List Value
 aoH:List (Nat×Nat×Bool)
 elem:Option TypeId
 eqs:List Nat
 lit:Bool
 arr:Option (TypeId×Nat)
 zag:Bool
 mp:Option (TypeId×TypeId)
def Jc (P:Program)(t:TypeId):Bool:=
 match P.underlying t with
 | some (.struct _)=>true
 | some (.array _ _)=>true
 | _=>false
def tq:IntKind->Nat
 | .i8=>20
 | .i16=>21
 | .i32=>22
 | .i64=>23
 | .u8=>24
 | .u16=>25
 | .u32=>26
 | .u64=>27
def anr:Nat->Option IntKind
 | 20=>some .i8
 | 21=>some .i16
 | 22=>some .i32
 | 23=>some .i64
 | 24=>some .u8
 | 25=>some .u16
 | 26=>some .u32
 | 27=>some .u64
 | _=>none
@[simp] theorem aJL (k:IntKind):(tq k=1)=False:=by cases k<;>simp[tq]
@[simp] theorem aJy (k:IntKind):(tq k=3)=False:=by cases k<;>simp[tq]
@[simp] theorem aJC (k:IntKind):(tq k=4)=False:=by cases k<;>simp[tq]
@[simp] theorem aJM (k:IntKind):(tq k=5)=False:=by cases k<;>simp[tq]
def kindOf:TypeDesc->Nat
 | .bool=>1
 | .int k=>tq k
 | .string=>3
 | .slice _=>4
 | .struct _=>5
 | .pointer _=>6
 | .func _ _ _=>7
 | _=>0
def cellsIn (P:Program)(t:TypeId):Nat:=if (P.underlying t).isSome then P.cellsOf t else 0
def Ol (P:Program):TypeDesc->List (Nat×Nat×Bool)
 | .struct fs=>fs.toList.map fun f=>(f.offset,cellsIn P f.type,Jc P f.type)
 | _=>[]
def agH:TypeDesc->Option TypeId
 | .slice e=>some e
 | _=>none
def WA (P:Program)(t:TypeId):Option Nat:=
 match P.underlying t with
 | some .bool=>some 1
 | some (.int _)=>some 2
 | some .string=>some 3
 | _=>none
def eqFields (P:Program):Nat->List Field->Option (List Nat)
 | _,[]=>some []
 | i,f::r=>
  match WA P f.type,eqFields P (i+1) r with
  | some k,some ks=>if Nat.beq f.offset i && !(f.name== "_") && Nat.beq (cellsIn P f.type) 1 then some (k::ks)else none
  | _,_=>none
def aev (P:Program)(t:TypeId):TypeDesc->List Nat
 | .struct fs=>if P.stoodInHeld t || P.eqGuardType P.depth t then[]else(match eqFields P 0 fs.toList with
  | some ks=>ks
  | none=>[])
 | .array n e=>if P.eqGuardType P.depth t then[]else(match WA P e,P.info? e with
  | some k,some i=>if Nat.beq i.size 1 then List.replicate n k else[]
  | _,_=>[])
 | _=>[]
def aqD:TypeDesc->Option (TypeId×Nat)
 | .array n e=>some (e,n)
 | _=>none
def zQ:Value->Bool
 | .agg _=>true
 | _=>false
def ajp:TypeDesc->Option (TypeId×TypeId)
 | .map k v=>some (k,v)
 | .pointer e=>some (e,e)
 | _=>none
def aHG (P:Program)(t:TypeId):Option Ty:=
 match P.info? t,P.underlying t with
 | some i,some d=>
  match i.zero with
  | some z=>some ⟨kindOf d,Jc P t,i.size,i.bytes,z.cells.toList,Ol P d,agH d,aev P t d,false,aqD d,zQ z,ajp d⟩
  | none=>none
 | _,_=>none
def fP (P:Program)(t:TypeId)(ty:Ty):Prop:=aHG P t=some {ty with lit:=false}
def Cm:IntKind->Int->Prop
 | .i8,n=> -128<=n/\n<=127
 | .i16,n=> -32768<=n/\n<=32767
 | .i32,n=> -2147483648<=n/\n<=2147483647
 | .i64,n=> -9223372036854775808<=n/\n<=9223372036854775807
 | .u8,n=>0<=n/\n<=255
 | .u16,n=>0<=n/\n<=65535
 | .u32,n=>0<=n/\n<=4294967295
 | .u64,n=>0<=n/\n<=18446744073709551615
theorem wrap_in {k:IntKind}{n:Int}(h:Cm k n):k.wrap n=n:=by
 cases k<;>simp only[Cm]at h<;>simp[IntKind.wrap,IntKind.bits,IntKind.signed]<;>omega
def dB (k:IntKind)(n:Int):Int:=k.wrap n
theorem gz {k:IntKind}{n:Int}(h:Cm k n):dB k n=n:=wrap_in h
def wJ (k:IntKind)(x y:Int):Int:=k.wrap (BitVec.ofInt k.bits x &&& BitVec.ofInt k.bits y).toNat
def orI (k:IntKind)(x y:Int):Int:=k.wrap (BitVec.ofInt k.bits x ||| BitVec.ofInt k.bits y).toNat
def aiK (k:IntKind)(x y:Int):Int:=k.wrap (BitVec.ofInt k.bits x ^^^ BitVec.ofInt k.bits y).toNat
def aGh (k:IntKind)(x y:Int):Int:=k.wrap (BitVec.ofInt k.bits x &&& ~~~BitVec.ofInt k.bits y).toNat
def XG (k:IntKind)(x y:Int):Int:=k.wrap (x*2 ^ (min y.toNat k.bits))
def zV (k:IntKind)(x y:Int):Int:=x.fdiv (2 ^ (min y.toNat k.bits))
def Xx:IntKind->IntKind->Bool:=fun a b=>a==b
def Pv.beq:Pv->Pv->Bool
 | .bool a, .bool b=>a==b
 | .int k a, .int k' b=>Xx k k' && a==b
 | .str a, .str b=>a==b
 | _,_=>false
def Pv.kind:Pv->Nat
 | .bool _=>1
 | .int k _=>tq k
 | .str _=>3
def Pv.lf {D:Type}:Pv->Lf D
 | .bool b=> .bool b
 | .int k n=> .int k n
 | .str s=> .str s
def yR {V:Type}(k:Pv):List (Pv×V)->Option V
 | []=>none
 | p::r=>if Pv.beq k p.1 then some p.2 else yR k r
def Uc {V:Type}(k:Pv)(v:V):List (Pv×V)->List (Pv×V)
 | []=>[(k,v)]
 | p::r=>if Pv.beq k p.1 then(p.1,v)::r else p::Uc k v r
structure azS {D:Type}(S:Sh D)(m:Mp D):Prop where
 keys:∀p∈m.kvs,p.1.kind=m.kind
 has:∀k:Pv,k.kind=m.kind->m.has k=(yR k m.kvs).isSome
 get:∀k:Pv,k.kind=m.kind->m.get k=((yR k m.kvs).getD m.zero).map Pv.lf
 put:∀k vs,k.kind=m.kind->vs.map Pv.kind=m.zero.map Pv.kind->∃m',S.mp (m.put k vs)=some m'/\m'.kvs=Uc k vs m.kvs/\m'.agg=m.agg
 len:m.len=m.kvs.length
def rf:Option Prop->Prop
 | none=>True
 | some p=>p
structure DP where
 p:Prop
 b:Bool
 h:b=true->p
@[reducible] def dp (p:Prop) [d:Decidable p]:DP:=⟨p,decide p,DK⟩
@[reducible] def dq (p:Prop):DP:=⟨p,false,fun e=>nomatch e⟩
def mF:Option DP->Prop
 | none=>True
 | some q=>q.p
theorem D8 {o:Option Prop}:mF (o.map dq) ↔ rf o:=by cases o<;>exact Iff.rfl
structure Out (D:Type) where
 pre:Option DP
 val:Sl D
 blks:List (Nat×Option (Bk D))
abbrev Ct (D:Type):=List (Sl D)->List (Bk D)->Option (Option DP×Sl D×List (Nat×Bk D)×List Nat)
def yI {D:Type}:Value->Lf D
 | .int k n=> .int k n
 | .string s=>if Nat.ble s.data.size 9223372036854775807 then .str s.data.toList else .val (.string s)
 | .nilIface=> .Xa none
 | v=> .val v
def aA7 {D:Type}:Value->Sl D
 | .agg cs=> .one (.agg (cs.toList.map yI))
 | v=> .one (.lf (yI v))
def bOf {D:Type}:Sl D->Option Bool
 | .one (.lf (.bool b))=>some b
 | .one (.lf (.val (.bool b)))=>some b
 | _=>none
def Lf.norm {D:Type}:Lf D->Lf D
 | .val (.bool b)=> .bool b
 | x=>x
def Sv.norm {D:Type}:Sv D->Sv D
 | .lf x=> .lf x.norm
 | .agg xs=> .agg (xs.map Lf.norm)
def Sl.norm {D:Type}:Sl D->Sl D
 | .one x=> .one x.norm
 | .yD xs=> .yD (xs.map Sv.norm)
def aG {D:Type}(slot:Nat->Sl D):Operand->Sl D
 | .tmp t=>slot t
 | .const v=>aA7 v
 | .func f=> .one (.lf (.fn f []))
 | .global i=> .one (.lf (.glb i))
def Sv.cells {D:Type}:Sv D->List (Lf D)
 | .lf x=>[x]
 | .agg xs=>xs
def putAt {D:Type}(cs:List (Lf D))(o:Nat)(xs:List (Lf D)):List (Lf D):=cs.take o++(xs++cs.drop (o+xs.length))
def Lf.storable {D:Type}:Lf D->Bool
 | .any=>false
 | .val (.agg _)=>false
 | .val (.tuple _)=>false
 | _=>true
def Sv.whole {D:Type}:Sv D->Bool
 | .lf x=>x.storable
 | .agg _=>true
def BJ {α:Type}:Option α->Option α->Option α
 | some a,_=>some a
 | none,b=>b
section
variable {D:Type}
def mJ (pre:Option DP)(x:Lf D):Option (Out D):=some ⟨pre, .one (.lf x),[]⟩
def aIj (op:BinOp)(k:IntKind)(a b:Int):Option (Out D):=
 match op with
 | .add=>mJ none (.int k (dB k (a+b)))
 | .sub=>mJ none (.int k (dB k (a - b)))
 | .mul=>mJ none (.int k (dB k (a*b)))
 | .and=>mJ none (.int k (wJ k a b))
 | .or=>mJ none (.int k (orI k a b))
 | .xor=>mJ none (.int k (aiK k a b))
 | .andNot=>mJ none (.int k (aGh k a b))
 | .quo=>mJ (some (dp (b≠0))) (.int k (dB k (a.tdiv b)))
 | .rem=>mJ (some (dp (b≠0))) (.int k (a.tmod b))
 | .eql=>mJ none (.bool (a==b))
 | .neq=>mJ none (.bool (a !=b))
 | .lss=>mJ none (.bool (decide (a < b)))
 | .leq=>mJ none (.bool (decide (a<=b)))
 | .gtr=>mJ none (.bool (decide (b < a)))
 | .geq=>mJ none (.bool (decide (b<=a)))
 | _=>none
def aJE (k:IntKind)(a b:Int):Option (Out D):=mJ (some (dp (0<=b))) (.int k (XG k a b))
def aJw (k:IntKind)(a b:Int):Option (Out D):=mJ (some (dp (0<=b))) (.int k (zV k a b))
def aGr (op:BinOp)(a b:List UInt8):Option (Out D):=
 match op with
 | .eql=>mJ none (.bool (a==b))
 | .neq=>mJ none (.bool (a !=b))
 | .lss=>mJ none (.bool (Op.bytesLess a b))
 | .leq=>mJ none (.bool (Op.bytesLess a b || a==b))
 | .gtr=>mJ none (.bool (!(Op.bytesLess a b || a==b)))
 | .geq=>mJ none (.bool (!Op.bytesLess a b))
 | .add=>mJ (some (dp (a.length+b.length<=9223372036854775807))) (.str (a++b))
 | _=>none
def eq1 (k:Nat)(x y:Lf D):Option Bool:=
 match k with
 | 1=>(match x,y with
  | .bool a, .bool b=>some (a==b)
  | _,_=>none)
 | 2=>(match x,y with
  | .int k a, .int k' b=>if Xx k k' then some (a==b)else none
  | _,_=>none)
 | 3=>(match x,y with
  | .str a, .str b=>some (a==b)
  | _,_=>none)
 | _=>none
def vZ:List Nat->List (Lf D)->List (Lf D)->Option Bool
 | [],[],[]=>some true
 | k::ks,x::xs,y::ys=>
  (match eq1 k x y,vZ ks xs ys with
  | some e,some r=>some (e && r)
  | _,_=>none)
 | _,_,_=>none
def ak0 (T:TypeId->Option Ty)(S:Sh D)(op:BinOp)(t:TypeId)(x y:Sl D):Option (Out D):=
 match T t with
 | none=>none
 | some ty=>(match ty.elem,x,y with
  | some _, .one (.lf (.dat d)), .one (.lf (.val (.slice none 0 0)))=>if Nat.blt 0 (S.size d)then(match op with
   | .eql=>mJ none (.unk fun b=>b=true->S.len d=0)
   | .neq=>mJ none (.unk fun b=>b=false->S.len d=0)
   | _=>none)else none
  | some _, .one (.lf (.val (.slice none 0 0))), .one (.lf (.val (.slice none 0 0)))=>(match op with
   | .eql=>mJ none (.val (.bool true))
   | .neq=>mJ none (.val (.bool false))
   | _=>none)
  | _,_,_=>none)
def aBX (T:TypeId->Option Ty)(op:BinOp)(t:TypeId)(x y:Sl D):Option (Out D):=
 match x,y with
 | .one (.lf (.int k a)), .one (.lf (.int k' b))=>(match op with
  | .shl=>aJE k a b
  | .shr=>aJw k a b
  | op=>if Xx k k' then aIj op k a b else none)
 | .one (.lf (.str a)), .one (.lf (.str b))=>aGr op a b
 | .one (.agg xs), .one (.agg ys)=>
  (match T t with
  | some ty=>(match ty.eqs with
   | []=>none
   | ks=>(match vZ ks (xs.map Lf.norm) (ys.map Lf.norm),op with
    | some r, .eql=>mJ none (.bool r)
    | some r, .neq=>mJ none (.bool (!r))
    | _,_=>none))
  | none=>none)
 | x,y=>
  match bOf x,bOf y with
  | some a,some b=>
   (match T t with
   | some ty=>if ty.kind==1 then(match op with
    | .eql=>mJ none (.bool (a==b))
    | .neq=>mJ none (.bool (a !=b))
    | _=>none)else none
   | none=>none)
  | _,_=>none
def xUn (op:UnOp)(x:Sl D):Option (Out D):=
 match op,x with
 | .not, .one (.lf (.bool b))=>mJ none (.bool (!b))
 | .not, .one (.lf (.val (.bool b)))=>mJ none (.val (.bool (!b)))
 | .not, .one (.lf (.unk p))=>mJ none (.unk fun b=>p (!b))
 | .neg, .one (.lf (.int k n))=>mJ none (.int k (dB k (-n)))
 | .xor, .one (.lf (.int k n))=>mJ none (.int k (aiK k (if k.signed then -1 else k.max) n))
 | _,_=>none
def Cj (S:Sh D)(d:D)(i:Nat):Nat->Nat->List (Lf D)
 | _,0=>[]
 | j,n+1=>S.cell d i j::Cj S d i (j+1) n
def ET (T:TypeId->Option Ty)(S:Sh D)(blk:Nat->Option (Bk D))(t:TypeId)(x:Sl D):Option (Out D):=
 match T t with
 | none=>none
 | some ty=>
  match x with
  | .one (.lf (.ptr l o))=>
   match blk l with
   | some (.cells cs)=>
    if ty.agg then(if Nat.ble (o+ty.size) cs.length then some ⟨none, .one (.agg ((cs.drop o).take ty.size)),[]⟩else none)
    else(match cs[o]? with
     | some y=>mJ none y
     | none=>none)
   | _=>none
  | .one (.lf (.elt d i j))=>
   if ty.agg then(if Nat.ble (j+ty.size) (S.size d)then some ⟨none, .one (.agg (Cj S d i j ty.size)),[]⟩else none)
   else(if Nat.blt j (S.size d)then mJ none (S.cell d i j)else none)
  | .one (.lf (.opt l i j sz))=>
   match blk l with
   | some (.row e d)=>
    if ty.agg then(if Nat.ble (j+ty.size) (S.size d) && Nat.beq sz (S.size d)then some ⟨some (dp (i < S.len d)), .one (.agg (Cj S d i j ty.size)),[]⟩else none)
    else(if Nat.blt j (S.size d) && Nat.beq sz (S.size d)then mJ (some (dp (i < S.len d))) (S.cell d i j)else none)
   | _=>none
  | _=>none
def II (T:TypeId->Option Ty)(S:Sh D)(blk:Nat->Option (Bk D))(t:TypeId)(x y:Sl D):Option (Out D):=
 match T t,x,y with
 | some ty, .one (.lf (.ptr l o)), .one u=>
  match blk l with
  | some (.cells cs)=>
   if Nat.beq u.cells.length ty.size && Nat.ble (o+u.cells.length) cs.length && u.cells.all Lf.storable then some ⟨none, .one (.lf .any),[(l,some (.cells (putAt cs o u.cells)))]⟩else none
  | _=>none
 | some ty, .one (.lf (.opt l i j sz)), .one u=>
  match blk l with
  | some (.row e d)=>
   if Nat.beq u.cells.length ty.size && Nat.ble (j+u.cells.length) (S.size d) && Nat.beq sz (S.size d) && u.cells.all Lf.storable then(match S.set d i j (u.cells.map Lf.norm)with
    | some d'=>some ⟨some (dp (i < S.len d)), .one (.lf .any),[(l,some (.row e d'))]⟩
    | none=>none)else none
  | _=>none
 | _,_,_=>none
def Ji (T:TypeId->Option Ty)(t:TypeId)(x:Sl D)(f:Nat):Option (Out D):=
 match T t with
 | none=>none
 | some ty=>
  match ty.aoH[f]?,x with
  | some (off,sz,_), .one (.lf (.ptr l o))=>if Nat.beq sz 0 then none else mJ none (.ptr l (o+off))
  | some (off,sz,_), .one (.lf (.elt d i j))=>if Nat.beq sz 0 then none else mJ none (.elt d i (j+off))
  | some (off,sz,_), .one (.lf (.opt l i j z))=>if Nat.beq sz 0 then none else mJ none (.opt l i (j+off) z)
  | _,_=>none
def ak9 (T:TypeId->Option Ty)(t:TypeId)(x:Sl D)(f:Nat):Option (Out D):=
 match T t with
 | none=>none
 | some ty=>
  match ty.aoH[f]?,x with
  | some (off,sz,ag), .one (.agg cs)=>
   if Nat.beq sz 0 then none else if ag then(if Nat.ble (off+sz) cs.length then some ⟨none, .one (.agg ((cs.drop off).take sz)),[]⟩else none)
   else(match cs[off]? with
    | some y=>mJ none y
    | none=>none)
  | _,_=>none
def Ox (T:TypeId->Option Ty)(S:Sh D)(blk:Nat->Option (Bk D))(t:TypeId)(x i:Sl D):Option (Out D):=
 match T t with
 | none=>none
 | some ty=>
  match ty.elem with
  | none=>none
  | some e=>
   match T e with
   | none=>none
   | some te=>
    match x,i with
    | .one (.lf (.dat d)), .one (.lf (.int _ n))=>if Nat.beq te.size (S.size d) && Nat.blt 0 te.size then mJ (some (dp (0<=n/\n < S.len d))) (.elt d n.toNat 0)else none
    | .one (.lf (.own l)), .one (.lf (.int _ n))=>
     match blk l with
     | some (.row _ d)=>if Nat.beq te.size (S.size d) && Nat.blt 0 te.size then mJ (some (dp (0<=n/\n < S.len d))) (.opt l n.toNat 0 te.size)else none
     | some (.xw d)=>if Nat.beq te.size (S.size d) && Nat.blt 0 te.size then mJ (some (dp (0<=n/\n < S.len d))) (.elt d n.toNat 0)else none
     | _=>none
    | _,_=>none
def VT (x:Sl D)(i:Nat):Option (Out D):=
 match x with
 | .yD xs=>(match xs[i]? with
  | some y=>some ⟨none, .one y,[]⟩
  | none=>none)
 | _=>none
def IA (ty:Ty)(slot:Nat->Sl D):List (Nat×Operand)->List (Lf D)->Option (List (Lf D))
 | [],cs=>some cs
 | (f,x)::r,cs=>
  match ty.aoH[f]?,aG slot x with
  | some (off,sz,_), .one u=>if u.whole && Nat.beq u.cells.length sz && Nat.ble (off+sz) cs.length then IA ty slot r (putAt cs off u.cells)else none
  | _,_=>none
def aaY (T:TypeId->Option Ty)(slot:Nat->Sl D)(t:TypeId)(parts:Array (Nat×Operand)):Option (Out D):=
 match T t with
 | some ty=>
  if ty.kind==5 && ty.aoH.all (fun f=> !Nat.beq f.2.1 0)then(match IA ty slot parts.toList (ty.zero.map yI)with
   | some cs=>some ⟨none, .one (.agg cs),[]⟩
   | none=>none)else none
 | none=>none
def zh (sz:Nat)(slot:Nat->Sl D):List (Nat×Operand)->List (Lf D)->Option (List (Lf D))
 | [],cs=>some cs
 | (i,x)::r,cs=>
  match aG slot x with
  | .one u=>if u.whole && Nat.beq u.cells.length sz && Nat.ble (i*sz+sz) cs.length then zh sz slot r (putAt cs (i*sz) u.cells)else none
  | _=>none
def av9 (T:TypeId->Option Ty)(S:Sh D)(slot:Nat->Sl D)(fr:Nat)(t:TypeId)(len:Nat)(parts:Array (Nat×Operand)):Option (Out D):=
 match T t with
 | none=>none
 | some ty=>
  match ty.elem with
  | none=>none
  | some e=>
   match T e with
   | none=>none
   | some te=>
    if Nat.ble (len*te.size) 16777216 && Nat.blt 0 te.size && Nat.beq te.zero.length te.size then(match zh te.size slot parts.toList ((List.range (len*te.size)).map fun k=>yI ((te.zero[k % te.size]?).getD (.bool false)))with
     | some cs=>(match S.make e len (cs.map Lf.norm)with
      | some d=>if ty.lit || Nat.beq len 0 then some ⟨none, .one (.lf (.own fr)),[(fr,some (.row e d))]⟩else mJ none (.dat d)
      | none=>none)
     | none=>none)else none
def ajI (slot:Nat->Sl D)(c a b:Operand):Option (Out D):=
 match aG slot c with
 | .one (.lf (.val (.bool true)))=>some ⟨none,aG slot a,[]⟩
 | .one (.lf (.val (.bool false)))=>some ⟨none,aG slot b,[]⟩
 | .one (.lf (.bool t))=>
  match bOf (aG slot a),bOf (aG slot b)with
  | some x,some y=>mJ none (.bool (bif t then x else y))
  | _,_=>none
 | _=>none
def anC (S:Sh D)(T:TypeId->Option Ty)(blk:Nat->Option (Bk D))(ts:Array TypeId)(x:Sl D):Option (Out D):=
 match ts[0]? with
 | none=>none
 | some t=>
  match T t with
  | none=>none
  | some ty=>
   match x with
   | .one (.lf (.dat d))=>if ty.kind==4 && Nat.blt 0 (S.size d)then mJ none (.int .i64 (S.len d))else none
   | .one (.lf (.str s))=>if ty.kind==3 then mJ none (.int .i64 s.length)else none
   | .one (.lf (.own l))=>(match blk l with
    | some (.row _ d)=>if ty.kind==4 then mJ none (.int .i64 (S.len d))else none
    | some (.xw d)=>if ty.kind==4 && Nat.blt 0 (S.size d)then mJ none (.int .i64 (S.len d))else none
    | _=>none)
   | .one (.lf (.val (.slice none 0 0)))=>if ty.kind==4 then mJ none (.int .i64 0)else none
   | _=>none
def azQ (b:Builtin)(x y:Sl D):Option (Out D):=
 match b,x,y with
 | .min, .one (.lf (.int k a)), .one (.lf (.int _ c))=>mJ none (.int k (min a c))
 | .max, .one (.lf (.int k a)), .one (.lf (.int _ c))=>mJ none (.int k (max a c))
 | _,_,_=>none
def Lf.refs:Lf D->List Nat
 | .ptr l _=>[l]
 | .own l=>[l]
 | .opt l _ _ _=>[l]
 | .part l _ _ _ _=>[l]
 | .fn _ caps=>caps
 | _=>[]
def Sv.refs:Sv D->List Nat
 | .lf x=>x.refs
 | .agg xs=>xs.flatMap Lf.refs
def Sl.refs:Sl D->List Nat
 | .one x=>x.refs
 | .yD xs=>xs.flatMap Sv.refs
def Bk.refs:Bk D->List Nat
 | .cells cs=>cs.flatMap Lf.refs
 | .tc _ cs=>cs.flatMap Lf.refs
 | _=>[]
def Lf.ren (f:Nat->Nat):Lf D->Lf D
 | .ptr l o=> .ptr (f l) o
 | .own l=> .own (f l)
 | .opt l i j sz=> .opt (f l) i j sz
 | .part l i j sz h=> .part (f l) i j sz h
 | .fn h caps=> .fn h (caps.map f)
 | x=>x
def Sv.ren (f:Nat->Nat):Sv D->Sv D
 | .lf x=> .lf (x.ren f)
 | .agg xs=> .agg (xs.map (Lf.ren f))
def Sl.ren (f:Nat->Nat):Sl D->Sl D
 | .one x=> .one (x.ren f)
 | .yD xs=> .yD (xs.map (Sv.ren f))
def Bk.ren (f:Nat->Nat):Bk D->Bk D
 | .cells cs=> .cells (cs.map (Lf.ren f))
 | .tc t cs=> .tc t (cs.map (Lf.ren f))
 | x=>x
def Lf.nz:Lf D->Bool
 | .dat _=>true
 | .elt _ _ _=>true
 | .xt _=>true
 | _=>false
def Sv.nz:Sv D->Bool
 | .lf x=>x.nz
 | .agg xs=>xs.any Lf.nz
def Sl.nz:Sl D->Bool
 | .one x=>x.nz
 | .yD xs=>xs.any Sv.nz
def Bk.nz:Bk D->Bool
 | .cells cs=>cs.any Lf.nz
 | .iter _ _=>false
 | .map _=>false
 | .tc _ cs=>cs.any Lf.nz
 | _=>true
def rO (l:Nat):List Nat->Bool
 | []=>false
 | x::r=>Nat.beq x l || rO l r
def mr:List Nat->List Nat->List Nat
 | ids,[]=>ids
 | ids,l::r=>mr (if rO l ids then ids else ids++[l]) r
def reach (blk:Nat->Option (Bk D)):Nat->List Nat->List Nat
 | 0,ids=>ids
 | n+1,ids=>reach blk n (mr ids (ids.flatMap fun l=>match blk l with
  | some bk=>bk.refs
  | none=>[]))
def allIn (ids:List Nat):List Nat->Bool
 | []=>true
 | l::r=>rO l ids && allIn ids r
def uM (blk:Nat->Option (Bk D)):List Nat->Option (List (Bk D))
 | []=>some []
 | l::r=>(match blk l,uM blk r with
  | some b,some bs=>some (b::bs)
  | _,_=>none)
def jg:List Nat->Nat->Nat
 | [],_=>0
 | x::r,l=>if Nat.beq x l then 0 else jg r l+1
def backTo (ids:List Nat)(fr i:Nat):Nat:=if Nat.blt i ids.length then ids.getD i 0 else fr+(i - ids.length)
def Lf.view (blk:Nat->Option (Bk D)):Lf D->Lf D
 | .own l=>(match blk l with
  | some (.row _ d)=> .dat d
  | some (.map d)=> .dat d
  | some (.xw d)=> .dat d
  | _=> .own l)
 | .part l i j sz f=>(match blk l with
  | some (.row _ d)=>(match f d with
   | some d'=> .dat d'
   | none=> .any)
  | some (.xw d)=>(match f d with
   | some d'=> .dat d'
   | none=> .any)
  | _=> .part l i j sz f)
 | x=>x
def Sv.view (blk:Nat->Option (Bk D)):Sv D->Sv D
 | .lf x=> .lf (x.view blk)
 | .agg xs=> .agg (xs.map (Lf.view blk))
def Sl.view (blk:Nat->Option (Bk D)):Sl D->Sl D
 | .one x=> .one (x.view blk)
 | .yD xs=> .yD (xs.map (Sv.view blk))
def Lf.owns:Lf D->List Nat
 | .own l=>[l]
 | .part l _ _ _ _=>[l]
 | _=>[]
def Sv.owns:Sv D->List Nat
 | .lf x=>x.owns
 | .agg xs=>xs.flatMap Lf.owns
def Sl.owns:Sl D->List Nat
 | .one x=>x.owns
 | .yD xs=>xs.flatMap Sv.owns
def RJ (k:Nat):List (Nat×Bk D)->Bool
 | []=>true
 | (i,_)::r=>Nat.blt i (k+64) && RJ k r
def nodupB:List (Nat×Bk D)->Bool
 | []=>true
 | (i,_)::r=> !(r.any fun p=>Nat.beq p.1 i) && nodupB r
def jP:List (Nat×Bk D)->Nat->Option (Bk D)
 | [],_=>none
 | (k,v)::r,n=>if Nat.beq k n then some v else jP r n
def rwD:Option (Bk D)->Option D
 | some (.row _ d)=>some d
 | some (.map d)=>some d
 | _=>none
def jm (blk:Nat->Option (Bk D))(l:Nat):Option (Nat×Option (Bk D)):=
 match rwD (blk l)with
 | some d=>some (l,some (.xw d))
 | none=>none
def aur (dE:List (Bk D))(i:Nat):List Nat:=
 match dE[i]? with
 | some bk=>bk.refs
 | none=>[]
def as8 (dE:List (Bk D))(i:Nat):Bool:=
 match dE[i]? with
 | some bk=>bk.nz
 | none=>false
def vI (post:List (Nat×Bk D))(keep:List Nat)(dE:List (Bk D))(i:Nat):Option (Bk D):=
 match jP post i with
 | some bk=>some bk
 | none=>if rO i keep then dE[i]? else none
def BC (ct:Ct D)(blk:Nat->Option (Bk D))(fr:Nat)(args:List (Sl D))(jA:List Nat):Option (Out D):=
 let ids:=reach blk 3 (mr [] (args.flatMap Sl.refs))
 match uM blk ids with
 | none=>none
 | some dE=>
  if allIn ids (args.flatMap Sl.refs) && allIn ids (dE.flatMap Bk.refs) && !(jA.any fun l=>rO l ids)then
   (match ct (args.map (Sl.ren (jg ids))) (dE.map (Bk.ren (jg ids)))with
   | some (p,r,post,keep)=>
    if RJ ids.length post && nodupB post && allIn (post.map (·.1)++keep) (post.flatMap fun q=>q.2.refs) && allIn (post.map (·.1)++keep) r.refs &&
      allIn (post.map (·.1)++keep) (keep.flatMap fun i=>aur (dE.map (Bk.ren (jg ids))) i) && keep.all (fun i=>Nat.blt i ids.length && !rO i (post.map (·.1)))then
     some ⟨p,r.ren (backTo ids fr),((ids.filter fun l=> !rO (jg ids l) keep).map fun l=>(l,(jP post (jg ids l)).map (Bk.ren (backTo ids fr))))++(post.filter fun q=> !Nat.blt q.1 ids.length).map (fun q=>(backTo ids fr q.1,some (q.2.ren (backTo ids fr))))++
      (if r.nz || post.any (fun q=>q.2.nz) || keep.any (fun i=>as8 (dE.map (Bk.ren (jg ids))) i)then jA.filterMap (jm blk)else[])⟩
    else none
   | none=>none)
  else none
def L9 (Γ:FuncId->Option (Ct D))(f:FuncId)(blk:Nat->Option (Bk D))(args:List (Sl D))(fr:Nat):Option (Out D):=
 match Γ f with
 | none=>none
 | some ct=>
  let as:=args.map Sl.norm
  BJ (BC ct blk fr (as.map (Sl.view blk)) (mr [] (as.flatMap Sl.owns))) (BC ct blk fr as [])
def Ep (slot:Nat->Sl D):List Operand->Option (List Nat)
 | []=>some []
 | x::r=>(match aG slot x,Ep slot r with
  | .one (.lf (.ptr l 0)),some ls=>some (l::ls)
  | _,_=>none)
def LQ (blk:Nat->Option (Bk D)):Sl D->Option D
 | .one (.lf (.dat d))=>some d
 | .one (.lf (.own l))=>(match blk l with
  | some (.row _ d)=>some d
  | some (.xw d)=>some d
  | _=>none)
 | _=>none
def bQ (n bytes:Nat):Prop:=n<=1099511627776/\n*bytes<=140737488355328
instance {n b:Nat}:Decidable (bQ n b):=inferInstanceAs (Decidable (_/\_))
def Gm (T:TypeId->Option Ty)(S:Sh D)(blk:Nat->Option (Bk D))(fr:Nat)(ts:Array TypeId)(x y:Sl D):Option (Out D):=
 match ts.toList with
 | [t,t']=>if Nat.beq t t' then(match T t with
  | none=>none
  | some ty=>(match ty.elem with
   | none=>none
   | some e=>(match T e with
    | none=>none
    | some te=>(match LQ blk y with
     | none=>none
     | some d2=>
      if Nat.beq te.size (S.size d2) && Nat.blt 0 te.size && Nat.beq te.zero.length te.size then(match x with
       | .one (.lf (.val (.slice none 0 0)))=>some ⟨some (dp (bQ (S.len d2) te.bytes)), .one (.lf (.own fr)),[(fr,some (.row e d2))]⟩
       | .one (.lf (.own l))=>(match blk l with
        | some (.row e' d1)=>if Nat.beq e e' then(match S.cat d1 d2 with
         | some d=>some ⟨some (dp (bQ (S.len d1+S.len d2) te.bytes)), .one (.lf (.own fr)),[(l,none),(fr,some (.row e d))]⟩
         | none=>none)else none
        | _=>none)
       | _=>none)else none))))else none
 | _=>none
def aoN (T:TypeId->Option Ty)(S:Sh D)(fr:Nat)(t:TypeId)(x y:Sl D):Option (Out D):=
 match T t with
 | none=>none
 | some ty=>(match ty.elem with
  | none=>none
  | some e=>(match T e with
   | none=>none
   | some te=>(match x,y with
    | .one (.lf (.int _ n)), .one (.lf (.int _ m))=>if Nat.blt 0 te.size && Nat.beq te.zero.length te.size then(match S.zero e n.toNat (te.zero.map fun v=>(yI v).norm)with
     | some d=>some ⟨some (dp (n=m/\0<=n/\n*te.bytes<=281474976710656/\n<=1099511627776)), .one (.lf (.own fr)),[(fr,some (.row e d))]⟩
     | none=>none)else none
    | _,_=>none)))
def agI (T:TypeId->Option Ty)(t:TypeId)(x i:Sl D):Option (Out D):=
 match T t with
 | none=>none
 | some ty=>(match x,i with
  | .one (.lf (.str s)), .one (.lf (.int _ n))=>if ty.kind==3 then mJ (some (dp (0<=n/\n < s.length))) (.int .u8 (s.getD n.toNat 0).toNat)else none
  | _,_=>none)
def asl (T:TypeId->Option Ty)(src dst:TypeId)(x:Sl D):Option (Out D):=
 match T src,T dst,x with
 | some _,some ty, .one (.lf (.int _ n))=>(match anr ty.kind with
  | some k=>mJ none (.int k (dB k n))
  | none=>none)
 | _,_,_=>none
def bnd (n:Nat):Option (Sl D)->Option Int
 | none=>some n
 | some (.one (.lf (.int _ i)))=>some i
 | some _=>none
def OT (T:TypeId->Option Ty)(S:Sh D)(blk:Nat->Option (Bk D))(t:TypeId)(x:Sl D)(lo hi:Option (Sl D)):Option (Out D):=
 match T t with
 | none=>none
 | some ty=>(match bnd 0 lo with
  | none=>none
  | some l=>(match x with
   | .one (.lf (.str s))=>if ty.kind==3 then(match bnd s.length hi with
    | some h=>mJ (some (dp (0<=l/\l<=h/\h<=s.length))) (.str ((s.take h.toNat).drop l.toNat))
    | none=>none)else none
   | .one (.lf (.dat d))=>(match ty.elem with
    | none=>none
    | some e=>(match T e with
     | none=>none
     | some te=>if Nat.beq te.size (S.size d) && Nat.blt 0 te.size then(match bnd (S.len d) hi with
      | some h=>(match S.sub d l.toNat h.toNat with
       | some d'=>mJ (some (dp (0<=l/\l<=h/\h<=S.len d))) (.dat d')
       | none=>none)
      | none=>none)else none))
   | .one (.lf (.own q))=>(match ty.elem with
    | none=>none
    | some e=>(match T e with
     | none=>none
     | some te=>(match blk q with
      | some (.row _ d)=>(match bnd (S.len d) hi with
       | some h=>mJ (some (dp (0<=l/\l<=h/\h<=S.len d))) (.part q l.toNat h.toNat te.size (YK S te.size l.toNat h.toNat))
       | none=>none)
      | _=>none)))
   | _=>none))
def Y2 (T:TypeId->Option Ty)(S:Sh D)(blk:Nat->Option (Bk D))(ts:Array TypeId)(x y:Sl D):Option (Out D):=
 match ts.toList with
 | [t,t']=>if Nat.beq t t' then(match T t with
  | none=>none
  | some ty=>(match ty.elem with
   | none=>none
   | some e=>(match T e with
    | none=>none
    | some te=>(match x,y with
     | .one (.lf (.own l)), .one (.lf (.dat d2))=>(match blk l with
      | some (.row e' d1)=>if Nat.beq e e' && (Nat.beq te.size (S.size d1) && (Nat.beq te.size (S.size d2) && Nat.blt 0 te.size))then
       (match S.sub d2 0 (min (S.len d2) (S.len d1)),S.sub d1 (min (S.len d2) (S.len d1)) (S.len d1)with
       | some p,some q=>(match S.cat p q with
        | some d=>some ⟨none, .one (.lf (.int .i64 (min (S.len d2) (S.len d1):Nat))),[(l,some (.row e d))]⟩
        | none=>none)
       | _,_=>none)else none
      | _=>none)
     | _,_=>none))))else none
 | _=>none
def isCells:Option (Bk D)->Bool
 | some (.cells _)=>true
 | _=>false
def Bq (T:TypeId->Option Ty)(S:Sh D)(Γ:FuncId->Option (Ct D))(slot:Nat->Sl D)(blk:Nat->Option (Bk D))(fr:Nat)(o:Op):Option (Out D):=
 match o with
 | .move x=>some ⟨none,aG slot x,[]⟩
 | .assign x=>some ⟨none,aG slot x,[]⟩
 | .pick c a b=>ajI slot c a b
 | .alloc t=>(match T t with
  | some ty=>some ⟨none, .one (.lf (.ptr fr 0)),[(fr,some (.cells (ty.zero.map yI)))]⟩
  | none=>none)
 | .box _ x=>(match aG slot x with
  | .one u=>if u.whole then some ⟨none, .one (.lf (.ptr fr 0)),[(fr,some (.cells u.cells))]⟩else none
  | _=>none)
 | .build t parts=>aaY T slot t parts
 | .buildSlice t len parts=>av9 T S slot fr t len parts
 | .load t x=>ET T S blk t (aG slot x)
 | .store t x y=>II T S blk t (aG slot x) (aG slot y)
 | .nilCheck x=>(match aG slot x with
  | .one (.lf (.ptr l o))=>mJ none (.ptr l o)
  | .one (.lf (.elt d i j))=>mJ none (.elt d i j)
  | .one (.lf (.opt l i j sz))=>mJ none (.opt l i j sz)
  | .one (.lf (.fn f caps))=>mJ none (.fn f caps)
  | _=>none)
 | .binOp op t x y _=>BJ (ak0 T S op t (aG slot x) (aG slot y)) (aBX T op t (aG slot x) (aG slot y))
 | .unOp op _ x=>xUn op (aG slot x)
 | .fieldAddr t x f=>Ji T t (aG slot x) f
 | .field t x f=>ak9 T t (aG slot x) f
 | .indexAddr t x i=>Ox T S blk t (aG slot x) (aG slot i)
 | .extract x i=>VT (aG slot x) i
 | .call c=>(match c.callee with
  | .builtin .len=>(match c.args.toList with
   | [x]=>anC S T blk c.argTypes (aG slot x)
   | _=>none)
  | .builtin .min=>(match c.args.toList with
   | [x,y]=>azQ .min (aG slot x) (aG slot y)
   | _=>none)
  | .builtin .max=>(match c.args.toList with
   | [x,y]=>azQ .max (aG slot x) (aG slot y)
   | _=>none)
  | .builtin .append=>(match c.args.toList with
   | [x,y]=>Gm T S blk fr c.argTypes (aG slot x) (aG slot y)
   | _=>none)
  | .builtin .copy=>(match c.args.toList with
   | [x,y]=>Y2 T S blk c.argTypes (aG slot x) (aG slot y)
   | _=>none)
  | .value f=>(match aG slot f with
   | .one (.lf (.fn f caps))=>if caps.all (fun l=>isCells (blk l))then L9 Γ f blk (c.args.toList.map (aG slot)++caps.map fun l=> .one (.lf (.ptr l 0))) fr else none
   | _=>none)
  | _=>none)
 | .makeFunc (.func f) first caps=>if first.isEmpty then(match Ep slot caps.toList with
  | some ls=>mJ none (.fn f ls)
  | none=>none)else none
 | .makeSlice t x y=>aoN T S fr t (aG slot x) (aG slot y)
 | .index t x i=>agI T t (aG slot x) (aG slot i)
 | .convert src dst x=>asl T src dst (aG slot x)
 | .slice t x lo hi none=>OT T S blk t (aG slot x) (lo.map (aG slot)) (hi.map (aG slot))
 | _=>none
end
end Go.Vc
