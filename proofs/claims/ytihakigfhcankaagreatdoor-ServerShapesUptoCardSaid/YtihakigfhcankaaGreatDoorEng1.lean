/- Own engine: Vd1, Vd2, Vd3. -/
import Derived.WalkKit
import Derived.Deep.LoopGhost
import Derived.Orders
import Derived.IntWalk
import Derived.KernelRfl
set_option linter.unusedVariables false
set_option linter.unusedSimpArgs false
namespace Go.Vc
abbrev Qa:=@Nat.eq_of_beq_eq_true
abbrev jY:=@Bool.and_eq_true
abbrev pz:=@List.length_append
abbrev qo:=@decide_eq_false
abbrev lU:=@Nat.le_refl
abbrev qW:=@decide_eq_true
abbrev uP:=@List.length_take
abbrev tY:=@List.mem_append
abbrev vZ:=@List.mem_flatMap
abbrev nR:=@cond_false
abbrev Aj:=@List.mem_singleton
abbrev zk:=@Int.toNat_natCast
abbrev xH:=@List.length_cons
abbrev Cj:=@of_decide_eq_true
abbrev A7:=@List.length_nil
abbrev DT:=@List.take_length
abbrev L8:=@Nat.mul_le_mul_right
abbrev uN:=@Nat.zero_le
abbrev yR:=@List.mem_cons
abbrev Wy:=@List.getElem?_eq_getElem
abbrev LD:=@List.getElem?_take
abbrev O5:=@Array.length_toList
abbrev Io:=@Array.toList_inj
abbrev KZ:=@Option.some.injEq
abbrev GZ:=@Option.map_some
abbrev Ak:=@Nat.le_trans
abbrev Qaz:=@List.getElem?_eq_some_iff
abbrev BZ:=@Nat.zero_add
abbrev MX:=@List.all_eq_true
abbrev Qa2:=@Nat.le_of_ble_eq_true
abbrev F_:=@List.map_cons
abbrev PW:=@List.length_drop
abbrev wB:=@cond_true
abbrev Qa6:=@List.getElem?_append_right
abbrev V7:=@List.not_mem_nil
abbrev Ik:=@List.mem_map
abbrev Qa9:=@List.getElem?_append_left
abbrev Qb:=@if_pos
abbrev Qba:=@List.append_assoc
abbrev Qbb:=@List.getElem?_map
abbrev MB:=@Nat.add_zero
abbrev qC:=@if_neg
abbrev Gf:=@Nat.blt_eq
abbrev V6:=@Prod.mk.injEq
abbrev PE:=@Int.le_refl
abbrev QX:=@Nat.add_mul
abbrev Qbi:=@Bool.not_eq_true'
abbrev Qbj:=@decide_eq_true_eq
abbrev Qbk:=@List.getElem?_drop
abbrev Qbl:=@List.length_map
abbrev Qbm:=@List.drop_eq_getElem_cons
abbrev Qbn:=@List.map_congr_left
abbrev Qbo:=@List.mem_of_getElem?
abbrev Qbp:=@List.flatMap_cons
abbrev Qbq:=@List.length_set
abbrev Qbr:=@Bool.false_eq_true
abbrev Qbs:=@List.take_append_of_le_length
abbrev Qbt:=@Bool.or_eq_true
abbrev Qbu:=@List.cons_append
abbrev Qbv:=@List.take_succ_eq_append_getElem
abbrev Qbw:=@List.filter_append
abbrev Qbx:=@List.mem_filter
abbrev Qby:=@Bool.not_true
abbrev Qbz:=@List.mem_cons_of_mem
abbrev Qb0:=@List.take_of_length_le
abbrev Qb1:=@Nat.mod_eq_of_lt
abbrev Qb2:=@Option.isSome_iff_exists
abbrev Qb3:=@Array.toList_append
abbrev Qb4:=@List.mem_append_left
abbrev Qb5:=@Bool.eq_iff_iff
abbrev Qb6:=@Bool.cond_eq_ite
abbrev Qb7:=@beq_eq_false_iff_ne
abbrev Qb8:=@Array.getElem?_toList
abbrev Qb9:=@Classical.choose_spec
abbrev Qc:=@List.getElem?_eq_none
abbrev Qca:=@List.length_filter_le
abbrev Qcb:=@List.mem_append_right
abbrev Qcc:=@List.nil_append
abbrev Qcd:=@Option.map_none
abbrev Qce:=@Nat.lt_of_lt_of_le
abbrev Qcf:=@of_decide_eq_false
abbrev Qcg:=@List.filter_cons
abbrev Qch:=@List.getElem?_cons_zero
abbrev Qci:=@List.map_toArray
abbrev Qcj:=@Array.getElem?_eq_some_iff
abbrev Qck:=@List.any_eq_false
abbrev Qcl:=@List.size_toArray
abbrev Qcm:=@Option.map_eq_some_iff
abbrev Qcn:=@List.mem_or_eq_of_mem_set
abbrev Qco:=@Array.getElem?_modify
abbrev Qcp:=@List.length_singleton
abbrev Qcq:=@List.take_append_drop
abbrev Qcr:=@List.any_eq_true
abbrev Qcs:=@List.mem_range
abbrev Qct:=@Nat.min_eq_left
abbrev Qcu:=@List.map_nil
abbrev Qcv:=@Nat.mul_comm
abbrev Qcw:=@Bool.true_and
abbrev Qcx:=@List.all_cons
abbrev Qcy:=@Nat.lt_succ_self
abbrev Qcz:=@Nat.eq_zero_or_pos
abbrev Qc0:=@List.length_replicate
abbrev Qc1:=@Option.some.inj
abbrev Qc2:=@List.map_map
abbrev Qc3:=@Nat.succ_mul
abbrev Qc4:=@Nat.add_assoc
abbrev Qc5:=@Nat.mod_lt
abbrev Qc6:=@beq_iff_eq
abbrev Qc7:=@List.take_left
abbrev Qc8:=@List.take_take
abbrev Qc9:=@Option.getD_some
abbrev Qd:=@congrArg
abbrev Qda:=@List.eq_nil_of_length_eq_zero
abbrev Qdb:=@Nat.mul_one
abbrev Qdc:=@List.append_eq_nil_iff
abbrev Qdd:=@List.mem_filterMap
abbrev Qde:=@Nat.lt_or_ge
abbrev Qdf:=@List.append_nil
abbrev Qdg:=@List.cons.injEq
abbrev Qdh:=@Array.size_append
abbrev Qdi:=@List.take_sublist
abbrev Qdj:=@List.take_sublist_take_left
abbrev Qdk:=@BitVec.ofInt_natCast
abbrev Qdl:=@List.flatMap_map
abbrev Qdm:=@Nat.add_comm
abbrev Qdn:=@Nat.le_of_eq
abbrev Qdo:=@Array.getElem?_eq_getElem
abbrev Qdp:=@Array.mapM_eq_mapM_toList
abbrev Qdq:=@List.extract_eq_take_drop
abbrev Qdr:=@List.drop_set_of_lt
abbrev Qds:=@List.filterMap_cons
abbrev Qdt:=@List.filter_eq_self
abbrev Qdu:=@List.getElem_of_mem
abbrev Qdv:=@Nat.mul_le_mul_left
abbrev Qdw:=@List.filter_nil
abbrev Qdx:=@BitVec.toNat_ofNat
abbrev Qdy:=@Array.getElem?_eq_none
abbrev Qdz:=@List.Sublist.refl
abbrev Qd0:=@List.drop_of_length_le
abbrev Qd1:=@List.take_add_one
abbrev Qd2:=@Array.mem_of_getElem?
abbrev Qd3:=@List.set_append_right
abbrev Qd4:=@Nat.div_lt_iff_lt_mul
abbrev Qd5:=@bne_iff_ne
abbrev Qd6:=@List.getElem?_append
abbrev Qd7:=@List.getElem?_of_mem
abbrev Qd8:=@List.mem_of_mem_drop
abbrev Qd9:=@Nat.pow_le_pow_right
abbrev Qe:=@Nat.mul_add_mod
abbrev Qea:=@List.getD_cons_succ
abbrev Qeb:=@List.getD_cons_zero
abbrev Qec:=@List.getElem?_range
abbrev Qed:=@List.take_succ_cons
abbrev Qee:=@Nat.add_le_add_left
abbrev Qef:=@Nat.sub_self
abbrev Qeg:=@List.nodup_nil
abbrev Qeh:=@Nat.lt_of_le_of_lt
abbrev Qei:=@UInt8.toNat_lt
abbrev Qej:=@List.map_id
abbrev Qek:=@Nat.sub_mul
abbrev Qel:=@List.take_set
theorem au{p:Prop}(h:p:=by omega):p:=h
theorem oD{p:Prop}(h:p:=by simp[Op.operands]):p:=h
theorem zO{p:Prop}(h:p:=by simp only[yZ];omega):p:=h
theorem lY{p:Prop}(h:p:=by decide):p:=h
theorem oJ{p:Prop}(h:p:=by simp):p:=h
theorem qa8{p:Prop}(h:p:=by rw[uP];omega):p:=h
theorem qbc{p:Prop}(h:p:=by rw[he];simp[Sl.refs,Sv.refs,Lf.refs]):p:=h
theorem qbf{p:Prop}(h:p:=by rintro rfl;exact hfr _ (lU _) (by omega) (h.al _ _ hl)):p:=h
theorem qbh{p:Prop}(h:p:=by simpa using lift (a1:=[]) b2 _ fun x hx=>by simp only[Qbp,tY];exact .inr hx):p:=h
theorem qbl{p:Prop}(h:p:=by simp[Sl.refs,Sv.refs,Lf.refs]):p:=h
theorem qbm{p:Prop}(h:p:=by rw[hmr];exact vZ.2 ⟨_,hx,hlx⟩):p:=h
theorem qbo{p:Prop}(h:p:=by simp;omega):p:=h
theorem qbp{p:Prop}(h:p:=by simp only[pz,uP,e2];omega):p:=h
theorem qbq{p:Prop}(h:p:=by simpa using h):p:=h
theorem qbt{p:Prop}(h:p:=by simp only[uP];omega):p:=h
theorem qbu{p:Prop}(h:p:=by rw[hx];simp):p:=h
theorem qb3{p:Prop}(h:p:=by simp[Lf.refs]):p:=h
theorem qb4{p:Prop}(h:p:=by subst hv6;simp only[pz,uP,Qc0];omega):p:=h
theorem qb5{p:Prop}(h:p:=by simpa[Gf]using hlt):p:=h
theorem qb6{p:Prop}(h:p:=by simp at hl⊢;exact .inr hl):p:=h
theorem qb7{p:Prop}(h:p:=by simpa using hj):p:=h
theorem qc{p:Prop}(h:p:=by simp only[Op.operands,Ik];exact⟨p,hp,rfl⟩):p:=h
theorem qcd{p:Prop}(h:p:=by rw[Qbq];omega):p:=h
theorem qcf{p:Prop}(h:p:=by rw[hmr];exact vZ.2 ⟨.tmp t,pW.1 ht,hl⟩):p:=h
theorem qch{p:Prop}(h:p:=by rw[hb];rfl):p:=h
theorem qci{p:Prop}(h:p:=by simp[hl]):p:=h
theorem qcj{p:Prop}(h:p:=by simpa[yx]using hw):p:=h
theorem qck{p:Prop}(h:p:=by rw[e9,Qbq];omega):p:=h
theorem qcm{p:Prop}(h:p:=by simpa using hi):p:=h
theorem qcn{p:Prop}(h:p:=by simp[execOp,ho,hc,asBool]):p:=h
theorem qcr{p:Prop}(h:p:=by rw[hsz];omega):p:=h
theorem qct{p:Prop}(h:p:=by simpa using hx):p:=h
theorem qcu{p:Prop}(h:p:=by simp[hy]):p:=h
theorem qcv{p:Prop}(h:p:=by simpa using h1):p:=h
theorem qcx{p:Prop}(h:p:=by rw[e];rfl):p:=h
open Go.RowKit
inductive Pv where
 | bool (b:Bool)
 | int (k:IntKind) (n:Int)
 | str (s:List UInt8)
structure mO where
 t:TypeId
 agg:Bool
 xs:List Pv
def Pv.val:Pv->Value
 | .bool b=> .bool b
 | .int k n=> .int k n
 | .str s=> .string ⟨s.toArray⟩
def mO.inner (i:mO):Value:=
 match i.agg,i.xs with
 | false,[x]=>x.val
 | _,xs=> .agg (xs.map Pv.val).toArray
def AB:Option mO->Value
 | none=> .nilIface
 | some i=> .iface i.t i.inner
def Pv.fits:Pv->Prop
 | .str s=>s.length<=9223372036854775807
 | _=>True
def asx:Option mO->Prop
 | none=>True
 | some i=>∀p∈i.xs,p.fits
inductive Dl (D:Type):Type where
 | bool (b:Bool)
 | int (k:IntKind) (n:Int)
 | str (s:List UInt8)
 | dat (d:D)
 | aEh
inductive Xt (D:Type):Type where
 | ifd (t:TypeId) (agg:Bool) (xs:List (Dl D))
 | clo (f:FuncId) (agg:Bool) (xs:List (Dl D))
 | clip (d:D)
inductive Lf (D:Type):Type where
 | any
 | val (v:Value)
 | bool (b:Bool)
 | int (k:IntKind) (n:Int)
 | str (s:List UInt8)
 | ptr (l off:Nat)
 | dat (d:D)
 | elt (d:D) (i j:Nat)
 | fn (f:FuncId) (caps:List Nat)
 | own (l:Nat)
 | opt (l i j sz:Nat)
 | unk (p:Bool->Prop)
 | part (l i j sz:Nat) (f:D->Option D)
 | glb (i:Nat)
 | Xb (v:Option mO)
 | xt (e:Xt D)
inductive Bk (D:Type):Type where
 | cells (cs:List (Lf D))
 | row (e:TypeId) (d:D)
 | wE (d:D)
 | iter (s:List UInt8) (pos:Nat)
 | map (d:D)
 | tc (t:TypeId) (cs:List (Lf D))
inductive Sv (D:Type):Type where
 | lf (x:Lf D)
 | agg (xs:List (Lf D))
inductive Sl (D:Type):Type where
 | one (x:Sv D)
 | xx (xs:List (Sv D))
structure Mp (D:Type) where
 kind:Nat
 agg:Bool
 zero:List Pv
 kvs:List (Pv×List Pv)
 has:Pv->Bool
 get:Pv->List (Lf D)
 put:Pv->List Pv->D
 len:Nat
structure Sh (D:Type) where
 size:D->Nat
 len:D->Nat
 cell:D->Nat->Nat->Lf D
 make:TypeId->Nat->List (Lf D)->Option D
 zero:TypeId->Nat->List (Lf D)->Option D
 set:D->Nat->Nat->List (Lf D)->Option D
 cat:D->D->Option D
 sub:D->Nat->Nat->Option D
 Po:Nat->Option D
 text:TypeId->List UInt8->Option D
 mp:D->Option (Mp D):=fun _=>none
 run:Bool:=false
 auH:TypeId->Option D:=fun _=>none
def rO (agg:Bool)(xs:List Pv):Value:=
 match agg,xs with
 | false,[x]=>x.val
 | _,xs=> .agg (xs.map Pv.val).toArray
def apo (w:World)(agg:Bool)(kvs:List (Pv×List Pv))(v:Value):Prop:=
 (∀p∈kvs,p.1.fits/\∀x∈p.2,x.fits)/\((v= .map none/\kvs=[])\/
  ∃b es n,v= .map (some b)/\w.heap[b]? =some (.map es n)/\es.toList.map (fun e=>(e.key,e.val))=kvs.map fun p=>(p.1.val,rO agg p.2))
def Xq {D:Type}(S:Sh D)(sz i j:Nat)(d:D):Option D:=if Nat.beq sz (S.size d)then S.sub d i j else none
def Lf.plain {D:Type}:Lf D->Value->Prop
 | .val x,u=>u=x
 | .bool b,u=>u= .bool b
 | .int k n,u=>u= .int k n
 | .str s,u=>u= .string ⟨s.toArray⟩/\s.length<=9223372036854775807
 | .dat _,_=>True
 | .Xb v,u=>u=AB v/\asx v
 | _,_=>False
inductive Ac {D:Type} (S:Sh D) (w:World):D->Value->Prop where
 | mp (d:D) (m:Mp D) (v:Value) (hm:S.mp d=some m) (hl:S.len d=0) (hz:S.size d=0) (h:apo w m.agg m.kvs v):Ac S w d v
 | mk (d:D) (hno:S.mp d=none) (a:Option Addr) (cap:Nat) (U:Nat->Nat->Value) (hcap:S.len d<=cap) (hlen:S.len d<=9223372036854775807)
   (hcell:∀i j,i < S.len d->j < S.size d->∃ad,a=some ad/\w.cell? (ad.add (i*S.size d+j))=some (U i j))
   (hpl:∀i j,i < S.len d->j < S.size d->Lf.plain (S.cell d i j) (U i j))
   (hdat:∀i j d',i < S.len d->j < S.size d->S.cell d i j= .dat d'->Ac S w d' (U i j)):Ac S w d (.slice a (S.len d) cap)
def dA {D:Type}(S:Sh D)(M:Nat->Prop)(w:World)(d:D)(v:Value):Prop:=
 ∀w':World,(∀b,b < w.heap.size->¬M b->w'.heap[b]? =w.heap[b]?)->Ac S w' d v
def Lf.jJ {D:Type}:Lf D->Bool
 | .bool _ | .int _ _ | .str _ | .dat _ | .Xb _=>true
 | _=>false
def Dl.Rel {D:Type}(S:Sh D)(M:Nat->Prop)(w:World):Dl D->Value->Prop
 | .bool b,v=>v= .bool b
 | .int k n,v=>v= .int k n
 | .str s,v=>v= .string ⟨s.toArray⟩/\s.length<=9223372036854775807
 | .dat d,v=>dA S M w d v
 | .aEh,v=>v= .slice none 0 0
def uy {D:Type}(S:Sh D)(M:Nat->Prop)(w:World):List (Dl D)->List Value->Prop
 | [],[]=>True
 | x::xs,v::vs=>x.Rel S M w v/\uy S M w xs vs
 | _,_=>False
def Nv {D:Type}(S:Sh D)(M:Nat->Prop)(w:World):Bool->List (Dl D)->Value->Prop
 | false,[x],u=>x.Rel S M w u
 | true,xs,u=>∃vs:List Value,u= .agg vs.toArray/\uy S M w xs vs
 | _,_,_=>False
def Xt.Rel {D:Type}(S:Sh D)(M:Nat->Prop)(w:World):Xt D->Value->Prop
 | .ifd t ag xs,v=>∃u,v= .iface t u/\Nv S M w ag xs u
 | .clo f ag xs,v=>∃u,v= .func (.func f) #[u] #[]/\Nv S M w ag xs u
 | .clip d,v=>∃a,v= .slice a (S.len d) (S.len d)/\dA S M w d v
def Lf.Rel {D:Type}(S:Sh D)(M:Nat->Prop)(w:World)(g:Nat->Option Value):Lf D->Value->Prop
 | .any,_=>True
 | .val x,v=>v=x
 | .bool b,v=>v= .bool b
 | .int k n,v=>v= .int k n
 | .str s,v=>v= .string ⟨s.toArray⟩/\s.length<=9223372036854775807
 | .ptr l o,v=>∃b,g l=some (.pointer (some ⟨b,0,none⟩))/\v= .pointer (some ⟨b,o,none⟩)
 | .dat d,v=>dA S M w d v
 | .elt d i j,v=>∃a n cap,dA S M w d (.slice (some a) n cap)/\i < S.len d/\v= .pointer (some (a.add (i*S.size d+j)))
 | .fn f caps,v=>∃vs:List Value,v= .func (.func f) #[] vs.toArray/\caps.map g=vs.map some
 | .own l,v=>g l=some v
 | .opt l i j sz,v=>∃b n cap,g l=some (.slice (some ⟨b,0,none⟩) n cap)/\v= .pointer (some ⟨b,i*sz+j,none⟩)
 | .unk p,v=>∃b,v= .bool b/\p b
 | .part l i j sz f,v=>∃a n cap,g l=some (.slice a n cap)/\v=sliced a i j cap sz/\i<=j/\j<=n/\f=Xq S sz i j
 | .glb i,v=>v= .pointer (some ⟨i,0,none⟩)
 | .Xb x,v=>v=AB x/\asx x
 | .xt e,v=>e.Rel S M w v
def aZ {D:Type}(S:Sh D)(M:Nat->Prop)(w:World)(g:Nat->Option Value):List (Lf D)->List Value->Prop
 | [],[]=>True
 | x::xs,v::vs=>x.Rel S M w g v/\aZ S M w g xs vs
 | _,_=>False
def Sv.Rel {D:Type}(S:Sh D)(M:Nat->Prop)(w:World)(g:Nat->Option Value):Sv D->Value->Prop
 | .lf x,v=>x.Rel S M w g v
 | .agg xs,v=>∃vs:List Value,v= .agg vs.toArray/\aZ S M w g xs vs
def iI {D:Type}(S:Sh D)(M:Nat->Prop)(w:World)(g:Nat->Option Value):List (Sv D)->List Value->Prop
 | [],[]=>True
 | x::xs,v::vs=>x.Rel S M w g v/\iI S M w g xs vs
 | _,_=>False
def Sl.Rel {D:Type}(S:Sh D)(M:Nat->Prop)(w:World)(g:Nat->Option Value):Sl D->Value->Prop
 | .one x,v=>x.Rel S M w g v
 | .xx xs,v=>∃vs:List Value,v= .tuple vs.toArray/\iI S M w g xs vs
structure Keeps (M:Nat->Prop)(w:World)(M':Nat->Prop)(w':World):Prop where
 size:w.heap.size<=w'.heap.size
 same:∀b,b < w.heap.size->¬M b->¬M' b/\w'.heap[b]? =w.heap[b]?
section
variable {D:Type}{S:Sh D}{M M':Nat->Prop}{w w':World}{g g':Nat->Option Value}
theorem dA.keep {d:D}{v:Value}(h:dA S M w d v)(k:Keeps M w M' w'):dA S M' w' d v:=fun w'' hs=>
 h w'' fun b hb hm=>(hs b (Qce hb k.size) (k.same b hb hm).1).trans (k.same b hb hm).2
theorem Dl.Rel.keep {x:Dl D}{v:Value}(h:x.Rel S M w v)(k:Keeps M w M' w'):x.Rel S M' w' v:=by
 cases x with
 | dat d=>exact dA.keep h k
 | _=>exact h
theorem uy.keep:∀{xs:List (Dl D)} {vs:List Value},uy S M w xs vs->Keeps M w M' w'->uy S M' w' xs vs
 | [],[],_,_=>trivial
 | x::xs,v::vs,h,k=>⟨h.1.keep k,uy.keep h.2 k⟩
theorem Nv.keep:∀{ag:Bool} {xs:List (Dl D)} {u:Value},Nv S M w ag xs u->Keeps M w M' w'->Nv S M' w' ag xs u
 | false,[x],u,h,k=>Dl.Rel.keep h k
 | true,xs,u,h,k=>by obtain⟨vs,h1,h2⟩:=h;exact⟨vs,h1,h2.keep k⟩
theorem Xt.Rel.keep {e:Xt D}{v:Value}(h:e.Rel S M w v)(k:Keeps M w M' w'):e.Rel S M' w' v:=by
 cases e with
 | ifd t ag xs=>obtain⟨u,h1,h2⟩:=h;exact⟨u,h1,h2.keep k⟩
 | clo f ag xs=>obtain⟨u,h1,h2⟩:=h;exact⟨u,h1,h2.keep k⟩
 | clip d=>obtain⟨a,h1,h2⟩:=h;exact⟨a,h1,dA.keep h2 k⟩
theorem dA.mono {d:D}{v:Value}{M₁:Nat->Prop}(h:dA S M w d v)(hm:∀b,M₁ b->M b):dA S M₁ w d v:=fun w'' hs=>h w'' fun b hb hn=>hs b hb fun h1=>hn (hm b h1)
theorem Dl.Rel.mono {M₁:Nat->Prop}{x:Dl D}{v:Value}(h:x.Rel S M w v)(hm:∀b,M₁ b->M b):x.Rel S M₁ w v:=by
 cases x with
 | dat d=>exact dA.mono h hm
 | _=>exact h
theorem uy.mono {M₁:Nat->Prop}(hm:∀b,M₁ b->M b):∀{xs:List (Dl D)} {vs:List Value},uy S M w xs vs->uy S M₁ w xs vs
 | [],[],_=>trivial
 | x::xs,v::vs,h=>⟨h.1.mono hm,uy.mono hm h.2⟩
theorem Nv.mono {M₁:Nat->Prop}(hm:∀b,M₁ b->M b):∀{ag:Bool} {xs:List (Dl D)} {u:Value},Nv S M w ag xs u->Nv S M₁ w ag xs u
 | false,[x],u,h=>Dl.Rel.mono h hm
 | true,xs,u,h=>by obtain⟨vs,h1,h2⟩:=h;exact⟨vs,h1,h2.mono hm⟩
theorem Xt.Rel.mono {M₁:Nat->Prop}{e:Xt D}{v:Value}(h:e.Rel S M w v)(hm:∀b,M₁ b->M b):e.Rel S M₁ w v:=by
 cases e with
 | ifd t ag xs=>obtain⟨u,h1,h2⟩:=h;exact⟨u,h1,h2.mono hm⟩
 | clo f ag xs=>obtain⟨u,h1,h2⟩:=h;exact⟨u,h1,h2.mono hm⟩
 | clip d=>obtain⟨a,h1,h2⟩:=h;exact⟨a,h1,dA.mono h2 hm⟩
def ab4 (S:Sh D)(M:Nat->Prop)(w:World):Prop:=∀i d,S.Po i=some d->dA S M w d (.slice (some ⟨i,0,none⟩) (S.len d) (S.len d))
theorem ab4.keep (h:ab4 S M w)(k:Keeps M w M' w'):ab4 S M' w':=fun i d hd=>(h i d hd).keep k
theorem ab4.mono {M₁:Nat->Prop}(h:ab4 S M w)(hm:∀b,M₁ b->M b):ab4 S M₁ w:=fun i d hd=>(h i d hd).mono hm
def More (g g':Nat->Option Value):Prop:=∀l v,g l=some v->g' l=some v
theorem More.refl (g:Nat->Option Value):More g g:=fun _ _ h=>h
theorem More.map:∀{caps:List Nat} {vs:List Value},More g g'->caps.map g=vs.map some->caps.map g'=vs.map some
 | [],[],_,_=>rfl
 | c::caps,v::vs,m,h=>by
  simp only[F_,Qdg]at h⊢;exact⟨m _ _ h.1,More.map m h.2⟩
 | [],_::_,_,h=>by simp at h
 | _::_,[],_,h=>by simp at h
theorem Lf.Rel.keep {x:Lf D}{v:Value}(h:x.Rel S M w g v)(k:Keeps M w M' w')(m:More g g'):x.Rel S M' w' g' v:=by
 cases x with
 | any=>trivial
 | val x=>exact h
 | bool b=>exact h
 | int k n=>exact h
 | str s=>exact h
 | ptr l o=>obtain⟨b,h1,h2⟩:=h;exact⟨b,m _ _ h1,h2⟩
 | dat d=>exact dA.keep h k
 | elt d i j=>obtain⟨a,n,cap,h1,h2⟩:=h;exact⟨a,n,cap,h1.keep k,h2⟩
 | fn f caps=>obtain⟨vs,h1,h2⟩:=h;exact⟨vs,h1,More.map m h2⟩
 | own l=>exact m _ _ h
 | opt l i j sz=>obtain⟨b,n,cap,h1,h2⟩:=h;exact⟨b,n,cap,m _ _ h1,h2⟩
 | unk p=>exact h
 | part l i j sz f=>obtain⟨a,n,cap,h1,h2⟩:=h;exact⟨a,n,cap,m _ _ h1,h2⟩
 | glb i=>exact h
 | Xb x=>exact h
 | xt e=>exact Xt.Rel.keep h k
theorem aZ.keep:∀{xs:List (Lf D)} {vs:List Value},aZ S M w g xs vs->Keeps M w M' w'->More g g'->aZ S M' w' g' xs vs
 | [],[],_,_,_=>trivial
 | x::xs,v::vs,h,k,m=>⟨h.1.keep k m,aZ.keep h.2 k m⟩
theorem aZ.length:∀{xs:List (Lf D)} {vs:List Value},aZ S M w g xs vs->xs.length=vs.length
 | [],[],_=>rfl
 | _::_,_::_,h=>by simp[aZ.length h.2]
theorem aZ.get:∀{xs:List (Lf D)} {vs:List Value} (i:Nat) {x:Lf D},aZ S M w g xs vs->xs[i]? =some x->∃v,vs[i]? =some v/\x.Rel S M w g v
 | [],[],i,x,_,h=>by simp at h
 | y::xs,v::vs,0,x,h,e=>⟨v,rfl,by simp at e;exact e▸h.1⟩
 | y::xs,v::vs,i+1,x,h,e=>by simpa using aZ.get i h.2 (by simpa using e)
theorem Sv.Rel.keep {x:Sv D}{v:Value}(h:x.Rel S M w g v)(k:Keeps M w M' w')(m:More g g'):x.Rel S M' w' g' v:=by
 cases x with
 | lf x=>exact Lf.Rel.keep h k m
 | agg xs=>obtain⟨vs,rfl,hr⟩:=h;exact⟨vs,rfl,hr.keep k m⟩
theorem iI.keep:∀{xs:List (Sv D)} {vs:List Value},iI S M w g xs vs->Keeps M w M' w'->More g g'->iI S M' w' g' xs vs
 | [],[],_,_,_=>trivial
 | x::xs,v::vs,h,k,m=>⟨h.1.keep k m,iI.keep h.2 k m⟩
theorem iI.get:∀{xs:List (Sv D)} {vs:List Value} (i:Nat) {x:Sv D},iI S M w g xs vs->xs[i]? =some x->∃v,vs[i]? =some v/\x.Rel S M w g v
 | [],[],i,x,_,h=>by simp at h
 | y::xs,v::vs,0,x,h,e=>⟨v,rfl,by simp at e;exact e▸h.1⟩
 | y::xs,v::vs,i+1,x,h,e=>by simpa using iI.get i h.2 (by simpa using e)
theorem iI.length:∀{xs:List (Sv D)} {vs:List Value},iI S M w g xs vs->xs.length=vs.length
 | [],[],_=>rfl
 | _::_,_::_,h=>by simp[iI.length h.2]
theorem Sl.Rel.keep {x:Sl D}{v:Value}(h:x.Rel S M w g v)(k:Keeps M w M' w')(m:More g g'):x.Rel S M' w' g' v:=by
 cases x with
 | one x=>exact Sv.Rel.keep h k m
 | xx xs=>obtain⟨vs,rfl,hr⟩:=h;exact⟨vs,rfl,hr.keep k m⟩
theorem dA.cell {d:D}{a:Addr}{n cap i j:Nat}(h:dA S M w d (.slice (some a) n cap))(hi:i < S.len d)(hj:j < S.size d):
  ∃u,w.cell? (a.add (i*S.size d+j))=some u/\(S.cell d i j).Rel S M w g u:=by
 classical
 let wx:World:={w with heap:=(Array.range w.heap.size).map fun b=>if M b then Obj.map #[] 0 else(w.heap[b]?).getD (Obj.map #[] 0)}
 have hwx:∀b,b < w.heap.size->¬M b->wx.heap[b]? =w.heap[b]? :=by
  intro b hb hm;simp[wx,hb,hm]
 have hout:∀p:Addr,(wx.cell? p).isSome=true->p.block < w.heap.size/\¬M p.block:=by
  intro p hp;simp only[World.cell?,wx]at hp;by_cases hb:p.block < w.heap.size
  ·refine⟨hb,fun hm=> ?_⟩;simp[hb,hm]at hp
  ·simp[hb]at hp
 have key:∀w':World,(∀b,b < w.heap.size->¬M b->w'.heap[b]? =w.heap[b]?)->∃u,w'.cell? (a.add (i*S.size d+j))=some u/\Lf.plain (S.cell d i j) u/\∀d',S.cell d i j= .dat d'->Ac S w' d' u:=by
  intro w' hs;generalize hv:Value.slice (some a) n cap=v at h;have hd:=h w' hs;cases hd with
  | mp d m v hm hl hz h=>omega
  | mk d hno a' cap' U hcap hlen hcell hpl hdat=>
   injection hv with h1 h2 h3
   obtain⟨ad,had,hc⟩:=hcell i j hi hj;rw[<-h1]at had;injection had with had
   subst had;exact⟨U i j,hc,hpl i j hi hj,fun d' hd'=>hdat i j d' hi hj hd'⟩
 obtain⟨ux,hux,_⟩:=key wx hwx;obtain⟨hb,hm⟩:=hout _ (by rw[hux];rfl);obtain⟨u,hu,hpl,hdt⟩:=key w (fun _ _ _=>rfl);refine⟨u,hu,?_⟩;generalize hx:S.cell d i j=x at*;cases x with
 | val x=>exact hpl
 | bool b=>exact hpl
 | int k n=>exact hpl
 | str s=>exact hpl
 | dat d'=>
  intro w' hs;obtain⟨u',hu',_,hdt'⟩:=key w' hs;have:u'=u:=by
   have e:w'.cell? (a.add (i*S.size d+j))=w.cell? (a.add (i*S.size d+j)):=by
    simp only[World.cell?,hs _ hb hm]
   rw[e,hu]at hu';injection hu' with hu'
   exact hu'.symm
  rw[<-this];exact hdt' d' rfl
 | any=>exact hpl.elim
 | ptr l o=>exact hpl.elim
 | elt d' i' j'=>exact hpl.elim
 | fn f caps=>exact hpl.elim
 | own l=>exact hpl.elim
 | opt l i j sz=>exact hpl.elim
 | unk p=>exact hpl.elim
 | part l i j sz f=>exact hpl.elim
 | glb i=>exact hpl.elim
 | Xb x=>exact hpl
 | xt e=>exact hpl.elim
theorem dA.slice {d:D}{v:Value}(h:dA S M w d v)(hz:0 < S.size d):∃a cap,v= .slice a (S.len d) cap/\S.len d<=cap:=by
 have hd:=h w (fun _ _ _=>rfl);cases hd with
 | mp d m v hm hl hz' h=>omega
 | mk d hno a cap U hcap hlen hcell hpl hdat=>exact⟨a,cap,rfl,hcap⟩
theorem dA.slice' {d:D}{v:Value}(h:dA S M w d v)(hz:S.mp d=none):∃a cap,v= .slice a (S.len d) cap/\S.len d<=cap:=by
 have hd:=h w (fun _ _ _=>rfl);cases hd with
 | mp d m v hm hl hz' h=>rw[hz]at hm;cases hm
 | mk d hno a cap U hcap hlen hcell hpl hdat=>exact⟨a,cap,rfl,hcap⟩
theorem dA.form {d:D}{v:Value}(h:dA S M w d v):(∃a cap,v= .slice a (S.len d) cap)\/∃r,v= .map r:=by
 have hd:=h w (fun _ _ _=>rfl);cases hd with
 | mp d m v hm hl hz' h=>rcases h.2 with⟨h,_⟩ | ⟨b,_,_,h,_⟩<;>exact .inr ⟨_,h⟩
 | mk d hno a cap U hcap hlen hcell hpl hdat=>exact .inl ⟨a,cap,rfl⟩
theorem dA.map {d:D}{v:Value}{m:Mp D}(h:dA S M w d v)(hm:S.mp d=some m):apo w m.agg m.kvs v:=by
 have hd:=h w (fun _ _ _=>rfl);cases hd with
 | mp d m' v hm' hl hz' h=>rw[hm]at hm';injection hm' with e;exact e▸h
 | mk d hno a cap U hcap hlen hcell hpl hdat=>rw[hm]at hno;cases hno
theorem dA.ah5 {d:D}{v:Value}(h:dA S M w d v):S.len d<=9223372036854775807:=by
 have hd:=h w (fun _ _ _=>rfl);cases hd with
 | mp d m v hm hl hz h=>omega
 | mk d hno a cap U hcap hlen hcell hpl hdat=>exact hlen
theorem dA.Af {d:D}{a:Option Addr}{n cap i:Nat}(h:dA S M w d (.slice a n cap))(hi:i < S.len d)(hs:0 < S.size d):∃ad,a=some ad:=by
 generalize hv:Value.slice a n cap=v at h;have hd:=h w (fun _ _ _=>rfl);cases hd with
 | mp d m v hm hl hz h=>omega
 | mk d hno a' cap' U hcap hlen hcell hpl hdat=>
  injection hv with h1 h2 h3
  obtain⟨ad,had,_⟩:=hcell i 0 hi hs;exact⟨ad,h1.trans had⟩
end
end Go.Vc
namespace Go.Vc
open Go.RowKit
def upd {α:Type}(f:Nat->α)(k:Nat)(v:α):Nat->α:=fun n=>if n=k then v else f n
theorem upd_same {α:Type}(f:Nat->α)(k:Nat)(v:α):upd f k v k=v:=by simp[upd]
theorem bK {α:Type}(f:Nat->α)(k n:Nat)(v:α)(h:n≠k):upd f k v n=f n:=by simp[upd,h]
def d_:Value->Option Nat
 | .pointer (some a)=>some a.block
 | .slice (some a) _ _=>some a.block
 | .map (some r)=>some r
 | _=>none
def isRef:Value->Bool
 | .pointer _ | .slice _ _ _ | .map _=>true
 | _=>false
structure Bs where
 w:World
 X:Nat->Prop
def Bs.Mine (B:Bs)(b:Nat):Prop:=B.w.heap.size<=b\/B.X b
structure Ee (B:Bs)(w':World):Prop where
 os:w'.os=B.w.os
 tape:w'.tape=B.w.tape
 output:w'.output=B.w.output
 size:B.w.heap.size<=w'.heap.size
 block:∀k,k < B.w.heap.size->¬B.X k->w'.heap[k]? =B.w.heap[k]?
theorem Ee.refl (B:Bs):Ee B B.w:=⟨rfl,rfl,rfl,lU _,fun _ _ _=>rfl⟩
theorem Ee.grow {B:Bs}{w w':World}(h:Ee B w)(k:Below w.heap.size w w'):Ee B w':=
 ⟨k.os.trans h.os,k.tape.trans h.tape,k.output.trans h.output,Ak h.size k.size,fun i hi hx=>(k.block i (Qce hi h.size)).trans (h.block i hi hx)⟩
def hot {D:Type}:Option (Bk D)->Bool
 | some (.cells _)=>true
 | some (.row _ _)=>true
 | some (.iter _ _)=>true
 | some (.map _)=>true
 | some (.tc _ _)=>true
 | _=>false
def ayE (w:World)(b:Nat)(t:TypeId)(vs:List Value):Prop:=
 ∃u0,w.heap[b]? =some (.cells (List.toArray (u0::vs)) t (0,0))/\(u0= .pointer none\/u0= .pointer (some ⟨b,0,none⟩))
theorem ayE.same {w w':World}{b:Nat}{t:TypeId}{vs:List Value}(h:ayE w b t vs)(e:w'.heap[b]? =w.heap[b]?):ayE w' b t vs:=by
 obtain⟨u0,h1,h2⟩:=h;exact⟨u0,e.trans h1,h2⟩
def xJ {D:Type}(S:Sh D)(M:Nat->Prop)(w:World)(g:Nat->Option Value)(B:Bs):Bk D->Value->Prop
 | .cells cs,v=>∃b vs t,v= .pointer (some ⟨b,0,none⟩)/\B.Mine b/\w.heap[b]? =some (.cells (List.toArray vs) t (0,0))/\aZ S M w g cs vs
 | .wE d,v=>dA S M w d v
 | .iter s p,v=>s.length<=9223372036854775807/\∃b,v= .pointer (some ⟨b,0,none⟩)/\B.Mine b/\w.heap[b]? =some (.stringIter ⟨s.toArray⟩ p)
 | .map d,v=>∃m b es n,S.mp d=some m/\(∀p∈m.kvs,p.1.fits/\∀x∈p.2,x.fits)/\v= .map (some b)/\B.Mine b/\w.heap[b]? =some (.map es n)/\es.toList.map (fun e=>(e.key,e.val))=m.kvs.map fun p=>(p.1.val,rO m.agg p.2)
 | .tc t cs,v=>∃b vs,v= .pointer (some ⟨b,0,none⟩)/\B.Mine b/\ayE w b t vs/\aZ S M w g cs vs
 | .row e d,v=>((∀b,d_ v=some b->B.Mine b)/\S.len d<=9223372036854775807/\S.mp d=none)/\∃xs,w.ownsRow 0 e (S.size d) v (S.len d) xs/\
   ∀i j,i < S.len d->j < S.size d->∃u,xs[i*S.size d+j]? =some u/\(S.cell d i j).jJ=true/\(S.cell d i j).Rel S M w g u
def aW {D:Type}(N:Nat->Prop)(blk:Nat->Option (Bk D))(g:Nat->Option Value):Nat->Prop:=
 fun b=>N b\/∃l v,hot (blk l)=true/\g l=some v/\d_ v=some b
structure Hp {D:Type}(S:Sh D)(w0:Bs)(N:Nat->Prop)(blk:Nat->Option (Bk D))(g:Nat->Option Value)(al:Nat->Prop)(w:World):Prop where
 below:Ee w0 w
 hN:∀b,N b->b < w0.w.heap.size/\¬w0.X b
 dH:∀l bk,blk l=some bk->∃v,g l=some v/\xJ S (aW N blk g) w g w0 bk v
 sep:∀l l' v v' b,hot (blk l)=true->hot (blk l')=true->g l=some v->g l'=some v'->d_ v=some b->d_ v'=some b->l=l'
 al:∀l v,g l=some v->al l
 refs:∀l v,g l=some v->isRef v=true
 gl:ab4 S (aW N blk g) w
section
variable {D:Type}{S:Sh D}{M M' N:Nat->Prop}{w w':World}{w0:Bs}{g g':Nat->Option Value}{blk:Nat->Option (Bk D)}{al:Nat->Prop}{B:Bs}
theorem sJ {w:World}{b:Nat}{o:Obj}(h:w.heap[b]? =some o):b < w.heap.size:=by
 rcases Qde b w.heap.size with hl | hl
 ·exact hl
 ·rw[Qdy hl]at h;cases h
theorem xJ.lt {bk:Bk D}{v:Value}{b:Nat}(h:xJ S M w g B bk v)(hh:hot (some bk)=true)(hb:d_ v=some b):b < w.heap.size/\B.Mine b:=by
 cases bk with
 | cells cs=>
  obtain⟨b',vs,t,rfl,hB,hh,_⟩:=h;simp only[d_,KZ]at hb;subst hb;exact⟨sJ hh,hB⟩
 | row e d=>
  obtain⟨hm,xs,⟨_,h⟩,_⟩:=h;rcases h with⟨rfl,_⟩ | ⟨g',cap,cur,rfl,hB,hh,_⟩
  ·simp[d_]at hb
  ·have:=hm.1 b hb;simp only[d_,KZ]at hb;subst hb;exact⟨sJ hh,this⟩
 | wE d=>simp[hot]at hh
 | iter s p=>
  obtain⟨_,b',rfl,hB,hh⟩:=h;simp only[d_,KZ]at hb;subst hb;exact⟨sJ hh,hB⟩
 | map d=>
  obtain⟨m,b',es,n,_,_,rfl,hB,hh,_⟩:=h;simp only[d_,KZ]at hb;subst hb;exact⟨sJ hh,hB⟩
 | tc t cs=>
  obtain⟨b',vs,rfl,hB,⟨u0,hh,_⟩,_⟩:=h;simp only[d_,KZ]at hb;subst hb;exact⟨sJ hh,hB⟩
theorem xJ.isRef {bk:Bk D}{v:Value}(h:xJ S M w g B bk v):isRef v=true:=by
 cases bk with
 | cells cs=>obtain⟨b',vs,t,rfl,_⟩:=h;rfl
 | row e d=>
  obtain⟨_,xs,⟨_,h⟩,_⟩:=h;rcases h with⟨rfl,_⟩ | ⟨g',cap,cur,rfl,_⟩<;>rfl
 | wE d=>
  rcases dA.form h with⟨a,cap,rfl⟩ | ⟨r,rfl⟩<;>rfl
 | iter s p=>obtain⟨_,b',rfl,_⟩:=h;rfl
 | map d=>obtain⟨m,b',es,n,_,_,rfl,_⟩:=h;rfl
 | tc t cs=>obtain⟨b',vs,rfl,_⟩:=h;rfl
theorem xJ.keep {bk:Bk D}{v:Value}(h:xJ S M w g B bk v)(k:Keeps M w M' w')(m:More g g')(hb:hot (some bk)=true->∀b,d_ v=some b->w'.heap[b]? =w.heap[b]?):xJ S M' w' g' B bk v:=by
 cases bk with
 | cells cs=>
  obtain⟨b,vs,t,rfl,hB,hh,hr⟩:=h;exact⟨b,vs,t,rfl,hB,(hb rfl b rfl).trans hh,hr.keep k m⟩
 | row e d=>
  obtain⟨hm,xs,⟨hl,h⟩,hc⟩:=h;refine⟨hm,xs,⟨hl,?_⟩,fun i j hi hj=> ?_⟩
  ·rcases h with h | ⟨g',cap,cur,rfl,hB,hh,hrest⟩
   ·exact .inl h
   ·exact .inr ⟨g',cap,cur,rfl,hB,(hb rfl g' rfl).trans hh,hrest⟩
  ·obtain⟨u,h1,h2,h3⟩:=hc i j hi hj;exact⟨u,h1,h2,h3.keep k m⟩
 | wE d=>exact dA.keep h k
 | iter s p=>
  obtain⟨hl,b,rfl,hB,hh⟩:=h;exact⟨hl,b,rfl,hB,(hb rfl b rfl).trans hh⟩
 | map d=>
  obtain⟨m,b,es,n,hm,hf,rfl,hB,hh,hr⟩:=h;exact⟨m,b,es,n,hm,hf,rfl,hB,(hb rfl b rfl).trans hh,hr⟩
 | tc t cs=>
  obtain⟨b,vs,rfl,hB,hh,hr⟩:=h;exact⟨b,vs,rfl,hB,hh.same (hb rfl b rfl),hr.keep k m⟩
theorem jU {x:Option (Bk D)}(h:hot x=true):∃bk,x=some bk/\hot (some bk)=true:=by
 cases x with
 | none=>simp[hot]at h
 | some bk=>exact⟨bk,rfl,h⟩
theorem Keeps.refl (M:Nat->Prop)(w:World):Keeps M w M w:=⟨lU _,fun _ _ h=>⟨h,rfl⟩⟩
theorem Hp.at (h:Hp S w0 N blk g al w){l:Nat}{v:Value}(h1:hot (blk l)=true)(h2:g l=some v):∃bk,blk l=some bk/\hot (some bk)=true/\xJ S (aW N blk g) w g w0 bk v:=by
 obtain⟨bk,hbk,hh⟩:=jU h1;obtain⟨v',hv',hok⟩:=h.dH l bk hbk;rw[h2]at hv';injection hv' with hv'
 subst hv';exact⟨bk,hbk,hh,hok⟩
theorem Hp.mlt (h:Hp S w0 N blk g al w){b:Nat}(hb:aW N blk g b):b < w.heap.size:=by
 rcases hb with hb | ⟨l,v,h1,h2,h3⟩
 ·exact Qce (h.hN b hb).1 h.below.size
 ·obtain⟨bk,_,hh,hok⟩:=h.at h1 h2;exact(hok.lt hh h3).1
theorem Hp.grow (h:Hp S w0 N blk g al w)(hb:Below w.heap.size w w'):Hp S w0 N blk g al w'/\Keeps (aW N blk g) w (aW N blk g) w':=by
 have hk:Keeps (aW N blk g) w (aW N blk g) w':=⟨hb.size,fun b hlt hm=>⟨hm,hb.block b hlt⟩⟩;refine⟨⟨h.below.grow hb,h.hN,fun l bk hl=> ?_,h.sep,h.al,h.refs,h.gl.keep hk⟩,hk⟩;obtain⟨v,hv,hok⟩:=h.dH l bk hl;exact⟨v,hv,hok.keep hk (More.refl _) fun hh b hbv=>hb.block b (hok.lt hh hbv).1⟩
theorem Hp.add (h:Hp S w0 N blk g al w)(hb:Below w.heap.size w w'){l:Nat}{bk:Bk D}{v:Value}(hl:¬al l)(hv:∀b,d_ v=some b->w.heap.size<=b)
  (hok:∀M',Keeps (aW N blk g) w M' w'->(∀c,M' c->aW N blk g c\/d_ v=some c)->xJ S M' w' (upd g l (some v)) w0 bk v):
  Hp S w0 N (upd blk l (some bk)) (upd g l (some v)) (fun n=>al n\/n=l) w'/\Keeps (aW N blk g) w (aW N (upd blk l (some bk)) (upd g l (some v))) w'/\More g (upd g l (some v)):=by
 have hgl:g l=none:=by
  cases hg:g l with
  | none=>rfl
  | some u=>exact absurd (h.al l u hg) hl
 have hbl:blk l=none:=by
  cases hx:blk l with
  | none=>rfl
  | some bk'=>
   obtain⟨u,hu,_⟩:=h.dH l bk' hx;rw[hgl]at hu;cases hu
 have hm:More g (upd g l (some v)):=fun n u hn=>by
  rw[bK _ _ _ _ (by rintro rfl;rw[hgl]at hn;cases hn)];exact hn
 have hk:Keeps (aW N blk g) w (aW N (upd blk l (some bk)) (upd g l (some v))) w':=by
  refine⟨hb.size,fun b hlt hmb=>⟨?_,hb.block b hlt⟩⟩;rintro(hnb | ⟨l',u,h1,h2,h3⟩)
  ·exact hmb (.inl hnb)
  ·by_cases he:l'=l
   ·subst he;rw[upd_same]at h2;injection h2 with h2
    subst h2;exact absurd (hv b h3) au
   ·rw[bK _ _ _ _ he]at h1 h2;exact hmb (.inr ⟨l',u,h1,h2,h3⟩)
 have hM':∀c,aW N (upd blk l (some bk)) (upd g l (some v)) c->aW N blk g c\/d_ v=some c:=by
  rintro c (hnb | ⟨l',u,h1,h2,h3⟩)
  ·exact .inl (.inl hnb)
  ·by_cases he:l'=l
   ·subst he;rw[upd_same]at h2;injection h2 with h2
    subst h2;exact .inr h3
   ·rw[bK _ _ _ _ he]at h1 h2;exact .inl (.inr ⟨l',u,h1,h2,h3⟩)
 refine⟨⟨h.below.grow hb,h.hN,fun l' bk' hl'=> ?_,?_,?_,?_,h.gl.keep hk⟩,hk,hm⟩
 ·by_cases he:l'=l
  ·subst he;rw[upd_same]at hl';injection hl' with hl'
   subst hl';exact⟨v,upd_same _ _ _,hok _ hk hM'⟩
  ·rw[bK _ _ _ _ he]at hl'⊢;obtain⟨u,hu,VV⟩:=h.dH l' bk' hl';exact⟨u,hu,VV.keep hk hm fun hh b hbv=>hb.block b (VV.lt hh hbv).1⟩
 ·intro a b va vb c ha hb' hga hgb hca hcb;have old:∀n u c,n≠l->hot (upd blk l (some bk) n)=true->upd g l (some v) n=some u->d_ u=some c->c < w.heap.size:=by
   intro n u c hn h1 h2 h3;rw[bK _ _ _ _ hn]at h1 h2;exact h.mlt (.inr ⟨n,u,h1,h2,h3⟩)
  by_cases hal:a=l
  ·by_cases Pq:b=l
   ·rw[hal,Pq]
   ·have h1:=old b vb c Pq hb' hgb hcb;subst hal;rw[upd_same]at hga;injection hga with hga
    subst hga;have:=hv c hca;omega
  ·by_cases Pq:b=l
   ·have h1:=old a va c hal ha hga hca;subst Pq;rw[upd_same]at hgb;injection hgb with hgb
    subst hgb;have:=hv c hcb;omega
   ·rw[bK _ _ _ _ hal]at ha hga;rw[bK _ _ _ _ Pq]at hb' hgb;exact h.sep a b va vb c ha hb' hga hgb hca hcb
 ·intro n u hn;by_cases he:n=l
  ·exact .inr he
  ·rw[bK _ _ _ _ he]at hn;exact .inl (h.al n u hn)
 ·intro n u hn;by_cases he:n=l
  ·subst he;rw[upd_same]at hn;injection hn with hn
   subst hn;exact(hok _ hk hM').isRef
  ·rw[bK _ _ _ _ he]at hn;exact h.refs n u hn
theorem Hp.write (h:Hp S w0 N blk g al w){l b:Nat}{bk bk':Bk D}{v:Value}(hl:blk l=some bk)(hh:hot (some bk)=true)(hh':hot (some bk')=true)(hg:g l=some v)(hv:d_ v=some b)
  (hos:w'.os=w.os) (htp:w'.tape=w.tape) (hout:w'.output=w.output) (hsz:w'.heap.size=w.heap.size) (hsame:∀n,n≠b->w'.heap[n]? =w.heap[n]?)
  (hok:Keeps (aW N blk g) w (aW N blk g) w'->xJ S (aW N blk g) w' g w0 bk' v):
  Hp S w0 N (upd blk l (some bk')) g al w'/\Keeps (aW N blk g) w (aW N (upd blk l (some bk')) g) w':=by
 have hsome:∀n,hot (upd blk l (some bk') n)=hot (blk n):=by
  intro n;by_cases he:n=l
  ·subst he;simp[upd_same,hl,hh,hh']
  ·rw[bK _ _ _ _ he]
 have hM:aW N (upd blk l (some bk')) g=aW N blk g:=by
  funext c;simp only[aW,hsome]
 have hmb:aW N blk g b:= .inr ⟨l,v,by rw[hl];exact hh,hg,hv⟩;obtain⟨v',hv',aIj⟩:=h.dH l bk hl;rw[hg]at hv';injection hv' with hv'
 subst hv';have hbB:=(aIj.lt hh hv).2;have hk:Keeps (aW N blk g) w (aW N blk g) w':=⟨Qdn hsz.symm,fun c _ hmc=>⟨hmc,hsame c (fun e=>hmc (e▸hmb))⟩⟩;refine⟨⟨⟨hos.trans h.below.os,htp.trans h.below.tape,hout.trans h.below.output,hsz▸h.below.size,fun k hk' hx=>(hsame k ?_).trans (h.below.block k hk' hx)⟩,h.hN,?_,?_,h.al,h.refs,by rw[hM];exact h.gl.keep hk⟩,hM▸hk⟩
 ·rintro rfl;rcases hbB with h1 | h1
  ·omega
  ·exact hx h1
 ·intro n bkn hn;rw[hM];by_cases he:n=l
  ·subst he;rw[upd_same]at hn;injection hn with hn
   subst hn;exact⟨v,hg,hok hk⟩
  ·rw[bK _ _ _ _ he]at hn;obtain⟨u,hu,VV⟩:=h.dH n bkn hn;refine⟨u,hu,VV.keep hk (More.refl _) fun hhn c hc=>hsame c ?_⟩;rintro rfl;exact he (h.sep n l u v c (by rw[hn];exact hhn) (by rw[hl];exact hh) hu hg hc hv)
 ·intro a c va vc d ha hc;rw[hsome]at ha hc;exact h.sep a c va vc d ha hc
theorem Hp.aHc (h:Hp S w0 N blk g al w)(l:Nat)(x:Option (Bk D))(hx:hot x=false)(hok:∀bk,x=some bk->∃v,g l=some v/\xJ S (aW N (upd blk l x) g) w g w0 bk v):
  Hp S w0 N (upd blk l x) g al w/\Keeps (aW N blk g) w (aW N (upd blk l x) g) w:=by
 have hsub:∀n,hot (upd blk l x n)=true->hot (blk n)=true:=by
  intro n hn;by_cases he:n=l
  ·subst he;rw[upd_same,hx]at hn;cases hn
  ·rwa [bK _ _ _ _ he]at hn
 have hk:Keeps (aW N blk g) w (aW N (upd blk l x) g) w:=by
  refine⟨lU _,fun b _ hm=>⟨?_,rfl⟩⟩;rintro(hn | ⟨n,u,h1,h2,h3⟩)
  ·exact hm (.inl hn)
  ·exact hm (.inr ⟨n,u,hsub n h1,h2,h3⟩)
 refine⟨⟨h.below,h.hN,fun n bk hn=> ?_,fun a c va vc d ha hc=>h.sep a c va vc d (hsub a ha) (hsub c hc),h.al,h.refs,h.gl.keep hk⟩,hk⟩;by_cases hne:n=l
 ·subst hne;rw[upd_same]at hn;exact hok bk hn
 ·rw[bK _ _ _ _ hne]at hn;obtain⟨u,hu,VV⟩:=h.dH n bk hn;exact⟨u,hu,VV.keep hk (More.refl _) fun _ _ _=>rfl⟩
theorem Hp.move (h:Hp S w0 N blk g al w){l fr:Nat}{bk':Bk D}{v v':Value}(hl:hot (blk l)=true)(hg:g l=some v)(hfr:¬al fr)
  (hos:w'.os=w.os) (htp:w'.tape=w.tape) (hout:w'.output=w.output) (hsz:w.heap.size<=w'.heap.size) (hsame:∀n,n < w.heap.size->d_ v≠some n->w'.heap[n]? =w.heap[n]?)
  (hv':∀b,d_ v'=some b->d_ v=some b\/w.heap.size<=b)
  (hok:∀M',Keeps (aW N blk g) w M' w'->(∀c,M' c->aW N blk g c\/d_ v'=some c)->xJ S M' w' (upd g fr (some v')) w0 bk' v'):
  Hp S w0 N (upd (upd blk l none) fr (some bk')) (upd g fr (some v')) (fun n=>al n\/n=fr) w'/\Keeps (aW N blk g) w (aW N (upd (upd blk l none) fr (some bk')) (upd g fr (some v'))) w'/\More g (upd g fr (some v')):=by
 have hgl:g fr=none:=by
  cases hg:g fr with
  | none=>rfl
  | some u=>exact absurd (h.al fr u hg) hfr
 have hm:More g (upd g fr (some v')):=fun n u hn=>by
  rw[bK _ _ _ _ (by rintro rfl;rw[hgl]at hn;cases hn)];exact hn
 have hsub:∀n,n≠fr->hot (upd (upd blk l none) fr (some bk') n)=true->n≠l/\hot (blk n)=true:=by
  intro n hn h1;rw[bK _ _ _ _ hn]at h1;by_cases he:n=l
  ·subst he;rw[upd_same]at h1;simp[hot]at h1
  ·rw[bK _ _ _ _ he]at h1;exact⟨he,h1⟩
 have hM':∀c,aW N (upd (upd blk l none) fr (some bk')) (upd g fr (some v')) c->aW N blk g c\/d_ v'=some c:=by
  rintro c (hnb | ⟨l',u,h1,h2,h3⟩)
  ·exact .inl (.inl hnb)
  ·by_cases he:l'=fr
   ·subst he;rw[upd_same]at h2;injection h2 with h2
    subst h2;exact .inr h3
   ·have h1':=(hsub l' he h1).2;rw[bK _ _ _ _ he]at h2;exact .inl (.inr ⟨l',u,h1',h2,h3⟩)
 have hmv:∀b,d_ v=some b->aW N blk g b:=fun b hb=> .inr ⟨l,v,hl,hg,hb⟩
 have hk:Keeps (aW N blk g) w (aW N (upd (upd blk l none) fr (some bk')) (upd g fr (some v'))) w':=by
  refine⟨hsz,fun b hlt hmb=>⟨fun hb=> ?_,hsame b hlt fun e=>hmb (hmv b e)⟩⟩;rcases hM' b hb with h1 | h1
  ·exact hmb h1
  ·rcases hv' b h1 with h2 | h2
   ·exact hmb (hmv b h2)
   ·omega
 have Ci:∀b,d_ v=some b->w0.Mine b:=fun b hb=>by
  obtain⟨bk,_,hh,hok'⟩:=h.at hl hg;exact(hok'.lt hh hb).2
 refine⟨⟨⟨hos.trans h.below.os,htp.trans h.below.tape,hout.trans h.below.output,Ak h.below.size hsz,fun k hk' hx=>(hsame k (Qce hk' h.below.size) ?_).trans (h.below.block k hk' hx)⟩,h.hN,fun n bkn hn=> ?_,?_,?_,?_,h.gl.keep hk⟩,hk,hm⟩
 ·intro e;rcases Ci k e with h1 | h1
  ·omega
  ·exact hx h1
 ·by_cases he:n=fr
  ·subst he;rw[upd_same]at hn;injection hn with hn
   subst hn;exact⟨v',upd_same _ _ _,hok _ hk hM'⟩
  ·rw[bK _ _ _ _ he]at hn⊢;have hnl:n≠l:=by rintro rfl;rw[upd_same]at hn;cases hn
   rw[bK _ _ _ _ hnl]at hn;obtain⟨u,hu,VV⟩:=h.dH n bkn hn;refine⟨u,hu,VV.keep hk hm fun hh b hbv=>hsame b (VV.lt hh hbv).1 fun e=> ?_⟩;exact hnl (h.sep n l u v b (by rw[hn];exact hh) hl hu hg hbv e)
 ·have old:∀n u c,n≠fr->hot (upd (upd blk l none) fr (some bk') n)=true->upd g fr (some v') n=some u->d_ u=some c->d_ v'=some c->False:=by
   intro n u c hn h1 h2 h3 h4;obtain⟨hnl,h1⟩:=hsub n hn h1;rw[bK _ _ _ _ hn]at h2;rcases hv' c h4 with h5 | h5
   ·exact hnl (h.sep n l u v c h1 hl h2 hg h3 h5)
   ·have:=h.mlt (.inr ⟨n,u,h1,h2,h3⟩);omega
  intro a b va vb c ha hb' hga hgb hca hcb;by_cases hal:a=fr
  ·by_cases Pq:b=fr
   ·rw[hal,Pq]
   ·subst hal;rw[upd_same]at hga;injection hga with hga
    subst hga;exact(old b vb c Pq hb' hgb hcb hca).elim
  ·by_cases Pq:b=fr
   ·subst Pq;rw[upd_same]at hgb;injection hgb with hgb
    subst hgb;exact(old a va c hal ha hga hca hcb).elim
   ·have ha:=(hsub a hal ha).2;have hb':=(hsub b Pq hb').2;rw[bK _ _ _ _ hal]at hga;rw[bK _ _ _ _ Pq]at hgb;exact h.sep a b va vb c ha hb' hga hgb hca hcb
 ·intro n u hn;by_cases he:n=fr
  ·exact .inr he
  ·rw[bK _ _ _ _ he]at hn;exact .inl (h.al n u hn)
 ·intro n u hn;by_cases he:n=fr
  ·subst he;rw[upd_same]at hn;injection hn with hn
   subst hn;exact(hok _ hk hM').isRef
  ·rw[bK _ _ _ _ he]at hn;exact h.refs n u hn
end
end Go.Vc
namespace Go.Vc
open Go.RowKit
structure Ty where
 kind:Nat
 agg:Bool
 size:Nat
 bytes:Nat
 zero:List Value
 anB:List (Nat×Nat×Bool)
 elem:Option TypeId
 eqs:List Nat
 lit:Bool
 arr:Option (TypeId×Nat)
 zag:Bool
 mp:Option (TypeId×TypeId)
def He (P:Program)(t:TypeId):Bool:=
 match P.underlying t with
 | some (.struct _)=>true
 | some (.array _ _)=>true
 | _=>false
def rV:IntKind->Nat
 | .i8=>20
 | .i16=>21
 | .i32=>22
 | .i64=>23
 | .u8=>24
 | .u16=>25
 | .u32=>26
 | .u64=>27
def alq:Nat->Option IntKind
 | 20=>some .i8
 | 21=>some .i16
 | 22=>some .i32
 | 23=>some .i64
 | 24=>some .u8
 | 25=>some .u16
 | 26=>some .u32
 | 27=>some .u64
 | _=>none
@[simp] theorem aHO (k:IntKind):(rV k=1)=False:=by cases k<;>simp[rV]
@[simp] theorem aHQ (k:IntKind):(rV k=3)=False:=by cases k<;>simp[rV]
@[simp] theorem aH4 (k:IntKind):(rV k=4)=False:=by cases k<;>simp[rV]
@[simp] theorem aHZ (k:IntKind):(rV k=5)=False:=by cases k<;>simp[rV]
def kindOf:TypeDesc->Nat
 | .bool=>1
 | .int k=>rV k
 | .string=>3
 | .slice _=>4
 | .struct _=>5
 | .pointer _=>6
 | .func _ _ _=>7
 | _=>0
def cellsIn (P:Program)(t:TypeId):Nat:=if (P.underlying t).isSome then P.cellsOf t else 0
def M_ (P:Program):TypeDesc->List (Nat×Nat×Bool)
 | .struct fs=>fs.toList.map fun f=>(f.offset,cellsIn P f.type,He P f.type)
 | _=>[]
def agl:TypeDesc->Option TypeId
 | .slice e=>some e
 | _=>none
def U4 (P:Program)(t:TypeId):Option Nat:=
 match P.underlying t with
 | some .bool=>some 1
 | some (.int _)=>some 2
 | some .string=>some 3
 | _=>none
def eqFields (P:Program):Nat->List Field->Option (List Nat)
 | _,[]=>some []
 | i,f::r=>
  match U4 P f.type,eqFields P (i+1) r with
  | some k,some ks=>if Nat.beq f.offset i && !(f.name== "_") && Nat.beq (cellsIn P f.type) 1 then some (k::ks)else none
  | _,_=>none
def ad8 (P:Program)(t:TypeId):TypeDesc->List Nat
 | .struct fs=>if P.stoodInHeld t || P.eqGuardType P.depth t then[]else(match eqFields P 0 fs.toList with
  | some ks=>ks
  | none=>[])
 | .array n e=>if P.eqGuardType P.depth t then[]else(match U4 P e,P.info? e with
  | some k,some i=>if Nat.beq i.size 1 then List.replicate n k else[]
  | _,_=>[])
 | _=>[]
def asH:TypeDesc->Option (TypeId×Nat)
 | .array n e=>some (e,n)
 | _=>none
def yX:Value->Bool
 | .agg _=>true
 | _=>false
def ait:TypeDesc->Option (TypeId×TypeId)
 | .map k v=>some (k,v)
 | .pointer e=>some (e,e)
 | _=>none
def aEI (P:Program)(t:TypeId):Option Ty:=
 match P.info? t,P.underlying t with
 | some i,some d=>
  match i.zero with
  | some z=>some ⟨kindOf d,He P t,i.size,i.bytes,z.cells.toList,M_ P d,agl d,ad8 P t d,false,asH d,yX z,ait d⟩
  | none=>none
 | _,_=>none
def fU (P:Program)(t:TypeId)(ty:Ty):Prop:=aEI P t=some {ty with lit:=false}
def yZ:IntKind->Int->Prop
 | .i8,n=> -128<=n/\n<=127
 | .i16,n=> -32768<=n/\n<=32767
 | .i32,n=> -2147483648<=n/\n<=2147483647
 | .i64,n=> -9223372036854775808<=n/\n<=9223372036854775807
 | .u8,n=>0<=n/\n<=255
 | .u16,n=>0<=n/\n<=65535
 | .u32,n=>0<=n/\n<=4294967295
 | .u64,n=>0<=n/\n<=18446744073709551615
theorem wrap_in {k:IntKind}{n:Int}(h:yZ k n):k.wrap n=n:=by
 cases k<;>simp only[yZ]at h<;>simp[IntKind.wrap,IntKind.bits,IntKind.signed]<;>omega
def dD (k:IntKind)(n:Int):Int:=k.wrap n
theorem fO {k:IntKind}{n:Int}(h:yZ k n):dD k n=n:=wrap_in h
def vk (k:IntKind)(x y:Int):Int:=k.wrap (BitVec.ofInt k.bits x &&& BitVec.ofInt k.bits y).toNat
def orI (k:IntKind)(x y:Int):Int:=k.wrap (BitVec.ofInt k.bits x ||| BitVec.ofInt k.bits y).toNat
def agt (k:IntKind)(x y:Int):Int:=k.wrap (BitVec.ofInt k.bits x ^^^ BitVec.ofInt k.bits y).toNat
def aGs (k:IntKind)(x y:Int):Int:=k.wrap (BitVec.ofInt k.bits x &&& ~~~BitVec.ofInt k.bits y).toNat
def WQ (k:IntKind)(x y:Int):Int:=k.wrap (x*2 ^ (min y.toNat k.bits))
def Aq (k:IntKind)(x y:Int):Int:=x.fdiv (2 ^ (min y.toNat k.bits))
def WB:IntKind->IntKind->Bool:=fun a b=>a==b
def Pv.beq:Pv->Pv->Bool
 | .bool a, .bool b=>a==b
 | .int k a, .int k' b=>WB k k' && a==b
 | .str a, .str b=>a==b
 | _,_=>false
def Pv.kind:Pv->Nat
 | .bool _=>1
 | .int k _=>rV k
 | .str _=>3
def Pv.lf {D:Type}:Pv->Lf D
 | .bool b=> .bool b
 | .int k n=> .int k n
 | .str s=> .str s
def yz {V:Type}(k:Pv):List (Pv×V)->Option V
 | []=>none
 | p::r=>if Pv.beq k p.1 then some p.2 else yz k r
def TP {V:Type}(k:Pv)(v:V):List (Pv×V)->List (Pv×V)
 | []=>[(k,v)]
 | p::r=>if Pv.beq k p.1 then(p.1,v)::r else p::TP k v r
structure ayD {D:Type}(S:Sh D)(m:Mp D):Prop where
 keys:∀p∈m.kvs,p.1.kind=m.kind
 has:∀k:Pv,k.kind=m.kind->m.has k=(yz k m.kvs).isSome
 get:∀k:Pv,k.kind=m.kind->m.get k=((yz k m.kvs).getD m.zero).map Pv.lf
 put:∀k vs,k.kind=m.kind->vs.map Pv.kind=m.zero.map Pv.kind->∃m',S.mp (m.put k vs)=some m'/\m'.kvs=TP k vs m.kvs/\m'.agg=m.agg
 len:m.len=m.kvs.length
def ql:Option Prop->Prop
 | none=>True
 | some p=>p
structure DP where
 p:Prop
 b:Bool
 h:b=true->p
@[reducible] def dp (p:Prop) [d:Decidable p]:DP:=⟨p,decide p,Cj⟩
@[reducible] def dq (p:Prop):DP:=⟨p,false,fun e=>nomatch e⟩
def lZ:Option DP->Prop
 | none=>True
 | some q=>q.p
theorem C_ {o:Option Prop}:lZ (o.map dq) ↔ ql o:=by cases o<;>exact Iff.rfl
structure Out (D:Type) where
 pre:Option DP
 val:Sl D
 blks:List (Nat×Option (Bk D))
abbrev Ct (D:Type):=List (Sl D)->List (Bk D)->Option (Option DP×Sl D×List (Nat×Bk D)×List Nat)
def xG {D:Type}:Value->Lf D
 | .int k n=> .int k n
 | .string s=>if Nat.ble s.data.size 9223372036854775807 then .str s.data.toList else .val (.string s)
 | .nilIface=> .Xb none
 | v=> .val v
def azB {D:Type}:Value->Sl D
 | .agg cs=> .one (.agg (cs.toList.map xG))
 | v=> .one (.lf (xG v))
def bOf {D:Type}:Sl D->Option Bool
 | .one (.lf (.bool b))=>some b
 | .one (.lf (.val (.bool b)))=>some b
 | _=>none
def Lf.norm {D:Type}:Lf D->Lf D
 | .val (.bool b)=> .bool b
 | x=>x
def Sv.norm {D:Type}:Sv D->Sv D
 | .lf x=> .lf x.norm
 | .agg xs=> .agg (xs.map Lf.norm)
def Sl.norm {D:Type}:Sl D->Sl D
 | .one x=> .one x.norm
 | .xx xs=> .xx (xs.map Sv.norm)
def aH {D:Type}(slot:Nat->Sl D):Operand->Sl D
 | .tmp t=>slot t
 | .const v=>azB v
 | .func f=> .one (.lf (.fn f []))
 | .global i=> .one (.lf (.glb i))
def Sv.cells {D:Type}:Sv D->List (Lf D)
 | .lf x=>[x]
 | .agg xs=>xs
def putAt {D:Type}(cs:List (Lf D))(o:Nat)(xs:List (Lf D)):List (Lf D):=cs.take o++(xs++cs.drop (o+xs.length))
def Lf.storable {D:Type}:Lf D->Bool
 | .any=>false
 | .val (.agg _)=>false
 | .val (.tuple _)=>false
 | _=>true
def Sv.whole {D:Type}:Sv D->Bool
 | .lf x=>x.storable
 | .agg _=>true
def Ba {α:Type}:Option α->Option α->Option α
 | some a,_=>some a
 | none,b=>b
section
variable {D:Type}
def l9 (pre:Option DP)(x:Lf D):Option (Out D):=some ⟨pre, .one (.lf x),[]⟩
def aE_ (op:BinOp)(k:IntKind)(a b:Int):Option (Out D):=
 match op with
 | .add=>l9 none (.int k (dD k (a+b)))
 | .sub=>l9 none (.int k (dD k (a - b)))
 | .mul=>l9 none (.int k (dD k (a*b)))
 | .and=>l9 none (.int k (vk k a b))
 | .or=>l9 none (.int k (orI k a b))
 | .xor=>l9 none (.int k (agt k a b))
 | .andNot=>l9 none (.int k (aGs k a b))
 | .quo=>l9 (some (dp (b≠0))) (.int k (dD k (a.tdiv b)))
 | .rem=>l9 (some (dp (b≠0))) (.int k (a.tmod b))
 | .eql=>l9 none (.bool (a==b))
 | .neq=>l9 none (.bool (a !=b))
 | .lss=>l9 none (.bool (decide (a < b)))
 | .leq=>l9 none (.bool (decide (a<=b)))
 | .gtr=>l9 none (.bool (decide (b < a)))
 | .geq=>l9 none (.bool (decide (b<=a)))
 | _=>none
def aH1 (k:IntKind)(a b:Int):Option (Out D):=l9 (some (dp (0<=b))) (.int k (WQ k a b))
def aH0 (k:IntKind)(a b:Int):Option (Out D):=l9 (some (dp (0<=b))) (.int k (Aq k a b))
def aGa (op:BinOp)(a b:List UInt8):Option (Out D):=
 match op with
 | .eql=>l9 none (.bool (a==b))
 | .neq=>l9 none (.bool (a !=b))
 | .lss=>l9 none (.bool (Op.bytesLess a b))
 | .leq=>l9 none (.bool (Op.bytesLess a b || a==b))
 | .gtr=>l9 none (.bool (!(Op.bytesLess a b || a==b)))
 | .geq=>l9 none (.bool (!Op.bytesLess a b))
 | .add=>l9 (some (dp (a.length+b.length<=9223372036854775807))) (.str (a++b))
 | _=>none
def eq1 (k:Nat)(x y:Lf D):Option Bool:=
 match k with
 | 1=>(match x,y with
  | .bool a, .bool b=>some (a==b)
  | _,_=>none)
 | 2=>(match x,y with
  | .int k a, .int k' b=>if WB k k' then some (a==b)else none
  | _,_=>none)
 | 3=>(match x,y with
  | .str a, .str b=>some (a==b)
  | _,_=>none)
 | _=>none
def uU:List Nat->List (Lf D)->List (Lf D)->Option Bool
 | [],[],[]=>some true
 | k::ks,x::xs,y::ys=>
  (match eq1 k x y,uU ks xs ys with
  | some e,some r=>some (e && r)
  | _,_=>none)
 | _,_,_=>none
def akU (T:TypeId->Option Ty)(S:Sh D)(op:BinOp)(t:TypeId)(x y:Sl D):Option (Out D):=
 match T t with
 | none=>none
 | some ty=>(match ty.elem,x,y with
  | some _, .one (.lf (.dat d)), .one (.lf (.val (.slice none 0 0)))=>if Nat.blt 0 (S.size d)then(match op with
   | .eql=>l9 none (.unk fun b=>b=true->S.len d=0)
   | .neq=>l9 none (.unk fun b=>b=false->S.len d=0)
   | _=>none)else none
  | some _, .one (.lf (.val (.slice none 0 0))), .one (.lf (.val (.slice none 0 0)))=>(match op with
   | .eql=>l9 none (.val (.bool true))
   | .neq=>l9 none (.val (.bool false))
   | _=>none)
  | _,_,_=>none)
def aDQ (T:TypeId->Option Ty)(op:BinOp)(t:TypeId)(x y:Sl D):Option (Out D):=
 match x,y with
 | .one (.lf (.int k a)), .one (.lf (.int k' b))=>(match op with
  | .shl=>aH1 k a b
  | .shr=>aH0 k a b
  | op=>if WB k k' then aE_ op k a b else none)
 | .one (.lf (.str a)), .one (.lf (.str b))=>aGa op a b
 | .one (.agg xs), .one (.agg ys)=>
  (match T t with
  | some ty=>(match ty.eqs with
   | []=>none
   | ks=>(match uU ks (xs.map Lf.norm) (ys.map Lf.norm),op with
    | some r, .eql=>l9 none (.bool r)
    | some r, .neq=>l9 none (.bool (!r))
    | _,_=>none))
  | none=>none)
 | x,y=>
  match bOf x,bOf y with
  | some a,some b=>
   (match T t with
   | some ty=>if ty.kind==1 then(match op with
    | .eql=>l9 none (.bool (a==b))
    | .neq=>l9 none (.bool (a !=b))
    | _=>none)else none
   | none=>none)
  | _,_=>none
def xUn (op:UnOp)(x:Sl D):Option (Out D):=
 match op,x with
 | .not, .one (.lf (.bool b))=>l9 none (.bool (!b))
 | .not, .one (.lf (.val (.bool b)))=>l9 none (.val (.bool (!b)))
 | .not, .one (.lf (.unk p))=>l9 none (.unk fun b=>p (!b))
 | .neg, .one (.lf (.int k n))=>l9 none (.int k (dD k (-n)))
 | .xor, .one (.lf (.int k n))=>l9 none (.int k (agt k (if k.signed then -1 else k.max) n))
 | _,_=>none
def Bf (S:Sh D)(d:D)(i:Nat):Nat->Nat->List (Lf D)
 | _,0=>[]
 | j,n+1=>S.cell d i j::Bf S d i (j+1) n
def CO (T:TypeId->Option Ty)(S:Sh D)(blk:Nat->Option (Bk D))(t:TypeId)(x:Sl D):Option (Out D):=
 match T t with
 | none=>none
 | some ty=>
  match x with
  | .one (.lf (.ptr l o))=>
   match blk l with
   | some (.cells cs)=>
    if ty.agg then(if Nat.ble (o+ty.size) cs.length then some ⟨none, .one (.agg ((cs.drop o).take ty.size)),[]⟩else none)
    else(match cs[o]? with
     | some y=>l9 none y
     | none=>none)
   | _=>none
  | .one (.lf (.elt d i j))=>
   if ty.agg then(if Nat.ble (j+ty.size) (S.size d)then some ⟨none, .one (.agg (Bf S d i j ty.size)),[]⟩else none)
   else(if Nat.blt j (S.size d)then l9 none (S.cell d i j)else none)
  | .one (.lf (.opt l i j sz))=>
   match blk l with
   | some (.row e d)=>
    if ty.agg then(if Nat.ble (j+ty.size) (S.size d) && Nat.beq sz (S.size d)then some ⟨some (dp (i < S.len d)), .one (.agg (Bf S d i j ty.size)),[]⟩else none)
    else(if Nat.blt j (S.size d) && Nat.beq sz (S.size d)then l9 (some (dp (i < S.len d))) (S.cell d i j)else none)
   | _=>none
  | _=>none
def Ia (T:TypeId->Option Ty)(S:Sh D)(blk:Nat->Option (Bk D))(t:TypeId)(x y:Sl D):Option (Out D):=
 match T t,x,y with
 | some ty, .one (.lf (.ptr l o)), .one u=>
  match blk l with
  | some (.cells cs)=>
   if Nat.beq u.cells.length ty.size && Nat.ble (o+u.cells.length) cs.length && u.cells.all Lf.storable then some ⟨none, .one (.lf .any),[(l,some (.cells (putAt cs o u.cells)))]⟩else none
  | _=>none
 | some ty, .one (.lf (.opt l i j sz)), .one u=>
  match blk l with
  | some (.row e d)=>
   if Nat.beq u.cells.length ty.size && Nat.ble (j+u.cells.length) (S.size d) && Nat.beq sz (S.size d) && u.cells.all Lf.storable then(match S.set d i j (u.cells.map Lf.norm)with
    | some d'=>some ⟨some (dp (i < S.len d)), .one (.lf .any),[(l,some (.row e d'))]⟩
    | none=>none)else none
  | _=>none
 | _,_,_=>none
def DC (T:TypeId->Option Ty)(t:TypeId)(x:Sl D)(f:Nat):Option (Out D):=
 match T t with
 | none=>none
 | some ty=>
  match ty.anB[f]?,x with
  | some (off,sz,_), .one (.lf (.ptr l o))=>if Nat.beq sz 0 then none else l9 none (.ptr l (o+off))
  | some (off,sz,_), .one (.lf (.elt d i j))=>if Nat.beq sz 0 then none else l9 none (.elt d i (j+off))
  | some (off,sz,_), .one (.lf (.opt l i j z))=>if Nat.beq sz 0 then none else l9 none (.opt l i (j+off) z)
  | _,_=>none
def akl (T:TypeId->Option Ty)(t:TypeId)(x:Sl D)(f:Nat):Option (Out D):=
 match T t with
 | none=>none
 | some ty=>
  match ty.anB[f]?,x with
  | some (off,sz,ag), .one (.agg cs)=>
   if Nat.beq sz 0 then none else if ag then(if Nat.ble (off+sz) cs.length then some ⟨none, .one (.agg ((cs.drop off).take sz)),[]⟩else none)
   else(match cs[off]? with
    | some y=>l9 none y
    | none=>none)
  | _,_=>none
def LX (T:TypeId->Option Ty)(S:Sh D)(blk:Nat->Option (Bk D))(t:TypeId)(x i:Sl D):Option (Out D):=
 match T t with
 | none=>none
 | some ty=>
  match ty.elem with
  | none=>none
  | some e=>
   match T e with
   | none=>none
   | some te=>
    match x,i with
    | .one (.lf (.dat d)), .one (.lf (.int _ n))=>if Nat.beq te.size (S.size d) && Nat.blt 0 te.size then l9 (some (dp (0<=n/\n < S.len d))) (.elt d n.toNat 0)else none
    | .one (.lf (.own l)), .one (.lf (.int _ n))=>
     match blk l with
     | some (.row _ d)=>if Nat.beq te.size (S.size d) && Nat.blt 0 te.size then l9 (some (dp (0<=n/\n < S.len d))) (.opt l n.toNat 0 te.size)else none
     | some (.wE d)=>if Nat.beq te.size (S.size d) && Nat.blt 0 te.size then l9 (some (dp (0<=n/\n < S.len d))) (.elt d n.toNat 0)else none
     | _=>none
    | _,_=>none
def UQ (x:Sl D)(i:Nat):Option (Out D):=
 match x with
 | .xx xs=>(match xs[i]? with
  | some y=>some ⟨none, .one y,[]⟩
  | none=>none)
 | _=>none
def H_ (ty:Ty)(slot:Nat->Sl D):List (Nat×Operand)->List (Lf D)->Option (List (Lf D))
 | [],cs=>some cs
 | (f,x)::r,cs=>
  match ty.anB[f]?,aH slot x with
  | some (off,sz,_), .one u=>if u.whole && Nat.beq u.cells.length sz && Nat.ble (off+sz) cs.length then H_ ty slot r (putAt cs off u.cells)else none
  | _,_=>none
def Zm (T:TypeId->Option Ty)(slot:Nat->Sl D)(t:TypeId)(parts:Array (Nat×Operand)):Option (Out D):=
 match T t with
 | some ty=>
  if ty.kind==5 && ty.anB.all (fun f=> !Nat.beq f.2.1 0)then(match H_ ty slot parts.toList (ty.zero.map xG)with
   | some cs=>some ⟨none, .one (.agg cs),[]⟩
   | none=>none)else none
 | none=>none
def xR (sz:Nat)(slot:Nat->Sl D):List (Nat×Operand)->List (Lf D)->Option (List (Lf D))
 | [],cs=>some cs
 | (i,x)::r,cs=>
  match aH slot x with
  | .one u=>if u.whole && Nat.beq u.cells.length sz && Nat.ble (i*sz+sz) cs.length then xR sz slot r (putAt cs (i*sz) u.cells)else none
  | _=>none
def axN (T:TypeId->Option Ty)(S:Sh D)(slot:Nat->Sl D)(fr:Nat)(t:TypeId)(len:Nat)(parts:Array (Nat×Operand)):Option (Out D):=
 match T t with
 | none=>none
 | some ty=>
  match ty.elem with
  | none=>none
  | some e=>
   match T e with
   | none=>none
   | some te=>
    if Nat.ble (len*te.size) 16777216 && Nat.blt 0 te.size && Nat.beq te.zero.length te.size then(match xR te.size slot parts.toList ((List.range (len*te.size)).map fun k=>xG ((te.zero[k % te.size]?).getD (.bool false)))with
     | some cs=>(match S.make e len (cs.map Lf.norm)with
      | some d=>if ty.lit || Nat.beq len 0 then some ⟨none, .one (.lf (.own fr)),[(fr,some (.row e d))]⟩else l9 none (.dat d)
      | none=>none)
     | none=>none)else none
def ajq (slot:Nat->Sl D)(c a b:Operand):Option (Out D):=
 match aH slot c with
 | .one (.lf (.val (.bool true)))=>some ⟨none,aH slot a,[]⟩
 | .one (.lf (.val (.bool false)))=>some ⟨none,aH slot b,[]⟩
 | .one (.lf (.bool t))=>
  match bOf (aH slot a),bOf (aH slot b)with
  | some x,some y=>l9 none (.bool (bif t then x else y))
  | _,_=>none
 | _=>none
def ams (S:Sh D)(T:TypeId->Option Ty)(blk:Nat->Option (Bk D))(ts:Array TypeId)(x:Sl D):Option (Out D):=
 match ts[0]? with
 | none=>none
 | some t=>
  match T t with
  | none=>none
  | some ty=>
   match x with
   | .one (.lf (.dat d))=>if ty.kind==4 && Nat.blt 0 (S.size d)then l9 none (.int .i64 (S.len d))else none
   | .one (.lf (.str s))=>if ty.kind==3 then l9 none (.int .i64 s.length)else none
   | .one (.lf (.own l))=>(match blk l with
    | some (.row _ d)=>if ty.kind==4 then l9 none (.int .i64 (S.len d))else none
    | some (.wE d)=>if ty.kind==4 && Nat.blt 0 (S.size d)then l9 none (.int .i64 (S.len d))else none
    | _=>none)
   | .one (.lf (.val (.slice none 0 0)))=>if ty.kind==4 then l9 none (.int .i64 0)else none
   | _=>none
def ayA (b:Builtin)(x y:Sl D):Option (Out D):=
 match b,x,y with
 | .min, .one (.lf (.int k a)), .one (.lf (.int _ c))=>l9 none (.int k (min a c))
 | .max, .one (.lf (.int k a)), .one (.lf (.int _ c))=>l9 none (.int k (max a c))
 | _,_,_=>none
def Lf.refs:Lf D->List Nat
 | .ptr l _=>[l]
 | .own l=>[l]
 | .opt l _ _ _=>[l]
 | .part l _ _ _ _=>[l]
 | .fn _ caps=>caps
 | _=>[]
def Sv.refs:Sv D->List Nat
 | .lf x=>x.refs
 | .agg xs=>xs.flatMap Lf.refs
def Sl.refs:Sl D->List Nat
 | .one x=>x.refs
 | .xx xs=>xs.flatMap Sv.refs
def Bk.refs:Bk D->List Nat
 | .cells cs=>cs.flatMap Lf.refs
 | .tc _ cs=>cs.flatMap Lf.refs
 | _=>[]
def Lf.ren (f:Nat->Nat):Lf D->Lf D
 | .ptr l o=> .ptr (f l) o
 | .own l=> .own (f l)
 | .opt l i j sz=> .opt (f l) i j sz
 | .part l i j sz h=> .part (f l) i j sz h
 | .fn h caps=> .fn h (caps.map f)
 | x=>x
def Sv.ren (f:Nat->Nat):Sv D->Sv D
 | .lf x=> .lf (x.ren f)
 | .agg xs=> .agg (xs.map (Lf.ren f))
def Sl.ren (f:Nat->Nat):Sl D->Sl D
 | .one x=> .one (x.ren f)
 | .xx xs=> .xx (xs.map (Sv.ren f))
def Bk.ren (f:Nat->Nat):Bk D->Bk D
 | .cells cs=> .cells (cs.map (Lf.ren f))
 | .tc t cs=> .tc t (cs.map (Lf.ren f))
 | x=>x
def Lf.mZ:Lf D->Bool
 | .dat _=>true
 | .elt _ _ _=>true
 | .xt _=>true
 | _=>false
def Sv.mZ:Sv D->Bool
 | .lf x=>x.mZ
 | .agg xs=>xs.any Lf.mZ
def Sl.mZ:Sl D->Bool
 | .one x=>x.mZ
 | .xx xs=>xs.any Sv.mZ
def Bk.mZ:Bk D->Bool
 | .cells cs=>cs.any Lf.mZ
 | .iter _ _=>false
 | .map _=>false
 | .tc _ cs=>cs.any Lf.mZ
 | _=>true
def rC (l:Nat):List Nat->Bool
 | []=>false
 | x::r=>Nat.beq x l || rC l r
def lX:List Nat->List Nat->List Nat
 | ids,[]=>ids
 | ids,l::r=>lX (if rC l ids then ids else ids++[l]) r
def reach (blk:Nat->Option (Bk D)):Nat->List Nat->List Nat
 | 0,ids=>ids
 | n+1,ids=>reach blk n (lX ids (ids.flatMap fun l=>match blk l with
  | some bk=>bk.refs
  | none=>[]))
def allIn (ids:List Nat):List Nat->Bool
 | []=>true
 | l::r=>rC l ids && allIn ids r
def uh (blk:Nat->Option (Bk D)):List Nat->Option (List (Bk D))
 | []=>some []
 | l::r=>(match blk l,uh blk r with
  | some b,some bs=>some (b::bs)
  | _,_=>none)
def jf:List Nat->Nat->Nat
 | [],_=>0
 | x::r,l=>if Nat.beq x l then 0 else jf r l+1
def backTo (ids:List Nat)(fr i:Nat):Nat:=if Nat.blt i ids.length then ids.getD i 0 else fr+(i - ids.length)
def Lf.view (blk:Nat->Option (Bk D)):Lf D->Lf D
 | .own l=>(match blk l with
  | some (.row _ d)=> .dat d
  | some (.map d)=> .dat d
  | some (.wE d)=> .dat d
  | _=> .own l)
 | .part l i j sz f=>(match blk l with
  | some (.row _ d)=>(match f d with
   | some d'=> .dat d'
   | none=> .any)
  | some (.wE d)=>(match f d with
   | some d'=> .dat d'
   | none=> .any)
  | _=> .part l i j sz f)
 | x=>x
def Sv.view (blk:Nat->Option (Bk D)):Sv D->Sv D
 | .lf x=> .lf (x.view blk)
 | .agg xs=> .agg (xs.map (Lf.view blk))
def Sl.view (blk:Nat->Option (Bk D)):Sl D->Sl D
 | .one x=> .one (x.view blk)
 | .xx xs=> .xx (xs.map (Sv.view blk))
def Lf.owns:Lf D->List Nat
 | .own l=>[l]
 | .part l _ _ _ _=>[l]
 | _=>[]
def Sv.owns:Sv D->List Nat
 | .lf x=>x.owns
 | .agg xs=>xs.flatMap Lf.owns
def Sl.owns:Sl D->List Nat
 | .one x=>x.owns
 | .xx xs=>xs.flatMap Sv.owns
def Qn (k:Nat):List (Nat×Bk D)->Bool
 | []=>true
 | (i,_)::r=>Nat.blt i (k+64) && Qn k r
def nodupB:List (Nat×Bk D)->Bool
 | []=>true
 | (i,_)::r=> !(r.any fun p=>Nat.beq p.1 i) && nodupB r
def jW:List (Nat×Bk D)->Nat->Option (Bk D)
 | [],_=>none
 | (k,v)::r,n=>if Nat.beq k n then some v else jW r n
def rwD:Option (Bk D)->Option D
 | some (.row _ d)=>some d
 | some (.map d)=>some d
 | _=>none
def jl (blk:Nat->Option (Bk D))(l:Nat):Option (Nat×Option (Bk D)):=
 match rwD (blk l)with
 | some d=>some (l,some (.wE d))
 | none=>none
def arX (dH:List (Bk D))(i:Nat):List Nat:=
 match dH[i]? with
 | some bk=>bk.refs
 | none=>[]
def aoZ (dH:List (Bk D))(i:Nat):Bool:=
 match dH[i]? with
 | some bk=>bk.mZ
 | none=>false
def uO (post:List (Nat×Bk D))(keep:List Nat)(dH:List (Bk D))(i:Nat):Option (Bk D):=
 match jW post i with
 | some bk=>some bk
 | none=>if rC i keep then dH[i]? else none
def AX (ct:Ct D)(blk:Nat->Option (Bk D))(fr:Nat)(args:List (Sl D))(jr:List Nat):Option (Out D):=
 let ids:=reach blk 3 (lX [] (args.flatMap Sl.refs))
 match uh blk ids with
 | none=>none
 | some dH=>
  if allIn ids (args.flatMap Sl.refs) && allIn ids (dH.flatMap Bk.refs) && !(jr.any fun l=>rC l ids)then
   (match ct (args.map (Sl.ren (jf ids))) (dH.map (Bk.ren (jf ids)))with
   | some (p,r,post,keep)=>
    if Qn ids.length post && nodupB post && allIn (post.map (·.1)++keep) (post.flatMap fun q=>q.2.refs) && allIn (post.map (·.1)++keep) r.refs &&
      allIn (post.map (·.1)++keep) (keep.flatMap fun i=>arX (dH.map (Bk.ren (jf ids))) i) && keep.all (fun i=>Nat.blt i ids.length && !rC i (post.map (·.1)))then
     some ⟨p,r.ren (backTo ids fr),((ids.filter fun l=> !rC (jf ids l) keep).map fun l=>(l,(jW post (jf ids l)).map (Bk.ren (backTo ids fr))))++(post.filter fun q=> !Nat.blt q.1 ids.length).map (fun q=>(backTo ids fr q.1,some (q.2.ren (backTo ids fr))))++
      (if r.mZ || post.any (fun q=>q.2.mZ) || keep.any (fun i=>aoZ (dH.map (Bk.ren (jf ids))) i)then jr.filterMap (jl blk)else[])⟩
    else none
   | none=>none)
  else none
def JH (Γ:FuncId->Option (Ct D))(f:FuncId)(blk:Nat->Option (Bk D))(args:List (Sl D))(fr:Nat):Option (Out D):=
 match Γ f with
 | none=>none
 | some ct=>
  let as:=args.map Sl.norm
  Ba (AX ct blk fr (as.map (Sl.view blk)) (lX [] (as.flatMap Sl.owns))) (AX ct blk fr as [])
def DU (slot:Nat->Sl D):List Operand->Option (List Nat)
 | []=>some []
 | x::r=>(match aH slot x,DU slot r with
  | .one (.lf (.ptr l 0)),some ls=>some (l::ls)
  | _,_=>none)
def Jd (blk:Nat->Option (Bk D)):Sl D->Option D
 | .one (.lf (.dat d))=>some d
 | .one (.lf (.own l))=>(match blk l with
  | some (.row _ d)=>some d
  | some (.wE d)=>some d
  | _=>none)
 | _=>none
def bT (n bytes:Nat):Prop:=n<=1099511627776/\n*bytes<=140737488355328
instance {n b:Nat}:Decidable (bT n b):=inferInstanceAs (Decidable (_/\_))
def Ff (T:TypeId->Option Ty)(S:Sh D)(blk:Nat->Option (Bk D))(fr:Nat)(ts:Array TypeId)(x y:Sl D):Option (Out D):=
 match ts.toList with
 | [t,t']=>if Nat.beq t t' then(match T t with
  | none=>none
  | some ty=>(match ty.elem with
   | none=>none
   | some e=>(match T e with
    | none=>none
    | some te=>(match Jd blk y with
     | none=>none
     | some d2=>
      if Nat.beq te.size (S.size d2) && Nat.blt 0 te.size && Nat.beq te.zero.length te.size then(match x with
       | .one (.lf (.val (.slice none 0 0)))=>some ⟨some (dp (bT (S.len d2) te.bytes)), .one (.lf (.own fr)),[(fr,some (.row e d2))]⟩
       | .one (.lf (.own l))=>(match blk l with
        | some (.row e' d1)=>if Nat.beq e e' then(match S.cat d1 d2 with
         | some d=>some ⟨some (dp (bT (S.len d1+S.len d2) te.bytes)), .one (.lf (.own fr)),[(l,none),(fr,some (.row e d))]⟩
         | none=>none)else none
        | _=>none)
       | _=>none)else none))))else none
 | _=>none
def asF (T:TypeId->Option Ty)(S:Sh D)(fr:Nat)(t:TypeId)(x y:Sl D):Option (Out D):=
 match T t with
 | none=>none
 | some ty=>(match ty.elem with
  | none=>none
  | some e=>(match T e with
   | none=>none
   | some te=>(match x,y with
    | .one (.lf (.int _ n)), .one (.lf (.int _ m))=>if Nat.blt 0 te.size && Nat.beq te.zero.length te.size then(match S.zero e n.toNat (te.zero.map fun v=>(xG v).norm)with
     | some d=>some ⟨some (dp (n=m/\0<=n/\n*te.bytes<=281474976710656/\n<=1099511627776)), .one (.lf (.own fr)),[(fr,some (.row e d))]⟩
     | none=>none)else none
    | _,_=>none)))
def afn (T:TypeId->Option Ty)(t:TypeId)(x i:Sl D):Option (Out D):=
 match T t with
 | none=>none
 | some ty=>(match x,i with
  | .one (.lf (.str s)), .one (.lf (.int _ n))=>if ty.kind==3 then l9 (some (dp (0<=n/\n < s.length))) (.int .u8 (s.getD n.toNat 0).toNat)else none
  | _,_=>none)
def aqp (T:TypeId->Option Ty)(src dst:TypeId)(x:Sl D):Option (Out D):=
 match T src,T dst,x with
 | some _,some ty, .one (.lf (.int _ n))=>(match alq ty.kind with
  | some k=>l9 none (.int k (dD k n))
  | none=>none)
 | _,_,_=>none
def bnd (n:Nat):Option (Sl D)->Option Int
 | none=>some n
 | some (.one (.lf (.int _ i)))=>some i
 | some _=>none
def MK (T:TypeId->Option Ty)(S:Sh D)(blk:Nat->Option (Bk D))(t:TypeId)(x:Sl D)(lo hi:Option (Sl D)):Option (Out D):=
 match T t with
 | none=>none
 | some ty=>(match bnd 0 lo with
  | none=>none
  | some l=>(match x with
   | .one (.lf (.str s))=>if ty.kind==3 then(match bnd s.length hi with
    | some h=>l9 (some (dp (0<=l/\l<=h/\h<=s.length))) (.str ((s.take h.toNat).drop l.toNat))
    | none=>none)else none
   | .one (.lf (.dat d))=>(match ty.elem with
    | none=>none
    | some e=>(match T e with
     | none=>none
     | some te=>if Nat.beq te.size (S.size d) && Nat.blt 0 te.size then(match bnd (S.len d) hi with
      | some h=>(match S.sub d l.toNat h.toNat with
       | some d'=>l9 (some (dp (0<=l/\l<=h/\h<=S.len d))) (.dat d')
       | none=>none)
      | none=>none)else none))
   | .one (.lf (.own q))=>(match ty.elem with
    | none=>none
    | some e=>(match T e with
     | none=>none
     | some te=>(match blk q with
      | some (.row _ d)=>(match bnd (S.len d) hi with
       | some h=>l9 (some (dp (0<=l/\l<=h/\h<=S.len d))) (.part q l.toNat h.toNat te.size (Xq S te.size l.toNat h.toNat))
       | none=>none)
      | _=>none)))
   | _=>none))
def X5 (T:TypeId->Option Ty)(S:Sh D)(blk:Nat->Option (Bk D))(ts:Array TypeId)(x y:Sl D):Option (Out D):=
 match ts.toList with
 | [t,t']=>if Nat.beq t t' then(match T t with
  | none=>none
  | some ty=>(match ty.elem with
   | none=>none
   | some e=>(match T e with
    | none=>none
    | some te=>(match x,y with
     | .one (.lf (.own l)), .one (.lf (.dat d2))=>(match blk l with
      | some (.row e' d1)=>if Nat.beq e e' && (Nat.beq te.size (S.size d1) && (Nat.beq te.size (S.size d2) && Nat.blt 0 te.size))then
       (match S.sub d2 0 (min (S.len d2) (S.len d1)),S.sub d1 (min (S.len d2) (S.len d1)) (S.len d1)with
       | some p,some q=>(match S.cat p q with
        | some d=>some ⟨none, .one (.lf (.int .i64 (min (S.len d2) (S.len d1):Nat))),[(l,some (.row e d))]⟩
        | none=>none)
       | _,_=>none)else none
      | _=>none)
     | _,_=>none))))else none
 | _=>none
def isCells:Option (Bk D)->Bool
 | some (.cells _)=>true
 | _=>false
def BD (T:TypeId->Option Ty)(S:Sh D)(Γ:FuncId->Option (Ct D))(slot:Nat->Sl D)(blk:Nat->Option (Bk D))(fr:Nat)(o:Op):Option (Out D):=
 match o with
 | .move x=>some ⟨none,aH slot x,[]⟩
 | .assign x=>some ⟨none,aH slot x,[]⟩
 | .pick c a b=>ajq slot c a b
 | .alloc t=>(match T t with
  | some ty=>some ⟨none, .one (.lf (.ptr fr 0)),[(fr,some (.cells (ty.zero.map xG)))]⟩
  | none=>none)
 | .box _ x=>(match aH slot x with
  | .one u=>if u.whole then some ⟨none, .one (.lf (.ptr fr 0)),[(fr,some (.cells u.cells))]⟩else none
  | _=>none)
 | .build t parts=>Zm T slot t parts
 | .buildSlice t len parts=>axN T S slot fr t len parts
 | .load t x=>CO T S blk t (aH slot x)
 | .store t x y=>Ia T S blk t (aH slot x) (aH slot y)
 | .nilCheck x=>(match aH slot x with
  | .one (.lf (.ptr l o))=>l9 none (.ptr l o)
  | .one (.lf (.elt d i j))=>l9 none (.elt d i j)
  | .one (.lf (.opt l i j sz))=>l9 none (.opt l i j sz)
  | .one (.lf (.fn f caps))=>l9 none (.fn f caps)
  | _=>none)
 | .binOp op t x y _=>Ba (akU T S op t (aH slot x) (aH slot y)) (aDQ T op t (aH slot x) (aH slot y))
 | .unOp op _ x=>xUn op (aH slot x)
 | .fieldAddr t x f=>DC T t (aH slot x) f
 | .field t x f=>akl T t (aH slot x) f
 | .indexAddr t x i=>LX T S blk t (aH slot x) (aH slot i)
 | .extract x i=>UQ (aH slot x) i
 | .call c=>(match c.callee with
  | .builtin .len=>(match c.args.toList with
   | [x]=>ams S T blk c.argTypes (aH slot x)
   | _=>none)
  | .builtin .min=>(match c.args.toList with
   | [x,y]=>ayA .min (aH slot x) (aH slot y)
   | _=>none)
  | .builtin .max=>(match c.args.toList with
   | [x,y]=>ayA .max (aH slot x) (aH slot y)
   | _=>none)
  | .builtin .append=>(match c.args.toList with
   | [x,y]=>Ff T S blk fr c.argTypes (aH slot x) (aH slot y)
   | _=>none)
  | .builtin .copy=>(match c.args.toList with
   | [x,y]=>X5 T S blk c.argTypes (aH slot x) (aH slot y)
   | _=>none)
  | .value f=>(match aH slot f with
   | .one (.lf (.fn f caps))=>if caps.all (fun l=>isCells (blk l))then JH Γ f blk (c.args.toList.map (aH slot)++caps.map fun l=> .one (.lf (.ptr l 0))) fr else none
   | _=>none)
  | _=>none)
 | .makeFunc (.func f) first caps=>if first.isEmpty then(match DU slot caps.toList with
  | some ls=>l9 none (.fn f ls)
  | none=>none)else none
 | .makeSlice t x y=>asF T S fr t (aH slot x) (aH slot y)
 | .index t x i=>afn T t (aH slot x) (aH slot i)
 | .convert src dst x=>aqp T src dst (aH slot x)
 | .slice t x lo hi none=>MK T S blk t (aH slot x) (lo.map (aH slot)) (hi.map (aH slot))
 | _=>none
end
end Go.Vc
