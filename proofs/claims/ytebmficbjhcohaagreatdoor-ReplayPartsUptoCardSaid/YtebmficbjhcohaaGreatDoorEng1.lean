/- Own engine: Vd1, Vd2, Vd3. -/
import Derived.WalkKit
import Derived.Deep.LoopGhost
import Derived.Orders
import Derived.IntWalk
import Derived.KernelRfl
set_option linter.unusedVariables false
set_option linter.unusedSimpArgs false
namespace Go.Vc
abbrev Qa:=@Nat.eq_of_beq_eq_true
abbrev iT:=@Bool.and_eq_true
abbrev qO:=@List.length_append
abbrev sQ:=@decide_eq_false
abbrev oC:=@Nat.le_refl
abbrev vS:=@List.mem_flatMap
abbrev u_:=@List.mem_append
abbrev BH:=@List.mem_singleton
abbrev zC:=@List.length_take
abbrev yz:=@List.length_nil
abbrev wO:=@decide_eq_true
abbrev AB:=@List.length_cons
abbrev Ph:=@List.getElem?_eq_getElem
abbrev DI:=@Int.toNat_natCast
abbrev qH:=@cond_false
abbrev Fa:=@of_decide_eq_true
abbrev vP:=@Nat.zero_le
abbrev U5:=@Nat.le_of_ble_eq_true
abbrev H5:=@Array.toList_inj
abbrev Ot:=@Bool.false_eq_true
abbrev CW:=@List.mem_cons
abbrev Nj:=@Option.some.injEq
abbrev H6:=@Option.map_some
abbrev Lc:=@List.take_length
abbrev lW:=@if_neg
abbrev Qay:=@List.getElem?_append_right
abbrev WJ:=@Array.length_toList
abbrev mV:=@if_pos
abbrev Qa1:=@List.getElem?_eq_some_iff
abbrev EZ:=@Nat.le_trans
abbrev H7:=@List.map_cons
abbrev FQ:=@Nat.zero_add
abbrev Rf:=@List.all_eq_true
abbrev Qa6:=@List.getElem?_append_left
abbrev WL:=@decide_eq_true_eq
abbrev Zp:=@List.getElem?_take
abbrev CE:=@Nat.blt_eq
abbrev Qb:=@List.mem_map
abbrev Qba:=@Nat.mul_le_mul_right
abbrev Yg:=@List.not_mem_nil
abbrev AC:=@cond_true
abbrev H8:=@Int.le_refl
abbrev Qbe:=@List.length_drop
abbrev Qbf:=@List.getElem?_map
abbrev Pj:=@Nat.add_zero
abbrev WB:=@Prod.mk.injEq
abbrev Qbi:=@Bool.not_eq_true'
abbrev Qbj:=@List.getElem?_drop
abbrev Qbk:=@List.map_congr_left
abbrev Qbl:=@List.mem_of_getElem?
abbrev Qbm:=@List.flatMap_cons
abbrev Qbn:=@List.length_map
abbrev Qbo:=@List.drop_eq_getElem_cons
abbrev Qbp:=@Bool.or_eq_true
abbrev Qbq:=@Bool.false_and
abbrev Qbr:=@List.take_succ_eq_append_getElem
abbrev Qbs:=@Option.isSome_iff_exists
abbrev Qbt:=@List.forall_mem_cons
abbrev Qbu:=@Bool.cond_eq_ite
abbrev Qbv:=@Nat.mod_eq_of_lt
abbrev Qbw:=@List.getElem?_eq_none
abbrev Qbx:=@List.length_singleton
abbrev Qby:=@List.getElem?_cons_zero
abbrev Qbz:=@List.mem_append_left
abbrev Qb0:=@List.mem_cons_of_mem
abbrev Qb1:=@List.mem_filter
abbrev Qb2:=@List.append_assoc
abbrev Qb3:=@Array.getElem?_toList
abbrev Qb4:=@Classical.choose_spec
abbrev Qb5:=@List.mem_append_right
abbrev Qb6:=@List.length_set
abbrev Qb7:=@Option.map_none
abbrev Qb8:=@Nat.lt_of_lt_of_le
abbrev Qb9:=@List.map_toArray
abbrev Qc:=@Array.getElem?_eq_some_iff
abbrev Qca:=@Option.map_eq_some_iff
abbrev Qcb:=@Array.toList_append
abbrev Qcc:=@Array.getElem?_modify
abbrev Qcd:=@List.take_append_drop
abbrev Qce:=@List.filter_append
abbrev Qcf:=@Nat.succ_mul
abbrev Qcg:=@Nat.min_eq_left
abbrev Qch:=@beq_iff_eq
abbrev Qci:=@List.all_cons
abbrev Qcj:=@Nat.add_mul
abbrev Qck:=@List.cons_append
abbrev Qcl:=@List.mem_range
abbrev Qcm:=@Nat.eq_zero_or_pos
abbrev Qcn:=@Bool.eq_iff_iff
abbrev Qco:=@List.any_eq_false
abbrev Qcp:=@List.map_map
abbrev Qcq:=@List.map_nil
abbrev Qcr:=@Nat.mul_comm
abbrev Qcs:=@Bool.not_true
abbrev Qct:=@beq_eq_false_iff_ne
abbrev Qcu:=@List.any_eq_true
abbrev Qcv:=@Option.getD_some
abbrev Qcw:=@congrArg
abbrev Qcx:=@List.eq_nil_of_length_eq_zero
abbrev Qcy:=@Nat.mul_one
abbrev Qcz:=@List.mem_filterMap
abbrev Qc0:=@Nat.mod_lt
abbrev Qc1:=@List.length_replicate
abbrev Qc2:=@List.size_toArray
abbrev Qc3:=@List.take_sublist
abbrev Qc4:=@List.take_sublist_take_left
abbrev Qc5:=@BitVec.ofInt_natCast
abbrev Qc6:=@List.take_left
abbrev Qc7:=@List.filter_cons
abbrev Qc8:=@List.flatMap_map
abbrev Qc9:=@Nat.le_of_eq
abbrev Qd:=@Array.getElem?_eq_getElem
abbrev Qda:=@Array.mapM_eq_mapM_toList
abbrev Qdb:=@List.extract_eq_take_drop
abbrev Qdc:=@List.drop_set_of_lt
abbrev Qdd:=@List.filterMap_cons
abbrev Qde:=@List.filter_eq_self
abbrev Qdf:=@List.getD_cons_succ
abbrev Qdg:=@List.getD_cons_zero
abbrev Qdh:=@List.getElem_of_mem
abbrev Qdi:=@List.take_succ_cons
abbrev Qdj:=@Nat.mul_le_mul_left
abbrev Qdk:=@List.getElem?_take_of_lt
abbrev Qdl:=@Nat.add_assoc
abbrev Qdm:=@Nat.lt_irrefl
abbrev Qdn:=@List.cons.injEq
abbrev Qdo:=@List.nil_append
abbrev Qdp:=@Option.some.inj
abbrev Qdq:=@BitVec.toNat_ofNat
abbrev Qdr:=@List.append_eq_nil_iff
abbrev Qds:=@List.take_add_one
abbrev Qdt:=@List.take_of_length_le
abbrev Qdu:=@List.take_zero
abbrev Qdv:=@not_false_eq_true
abbrev Qdw:=@Array.mem_of_getElem?
abbrev Qdx:=@Bool.not_eq_true
abbrev Qdy:=@Bool.true_and
abbrev Qdz:=@List.getElem?_append
abbrev Qd0:=@Nat.pow_le_pow_right
abbrev Qd1:=@List.append_nil
abbrev Qd2:=@Nat.mul_add_mod
abbrev Qd3:=@UInt8.toNat_inj
abbrev Qd4:=@List.getElem?_range
abbrev Qd5:=@Nat.add_comm
abbrev Qd6:=@Nat.lt_or_ge
abbrev Qd7:=@Nat.sub_self
abbrev Qd8:=@List.nodup_nil
abbrev Qd9:=@List.take_take
abbrev Qe:=@bne_iff_ne
abbrev Qea:=@List.map_id
abbrev Qeb:=@List.take_set
theorem au{p:Prop}(h:p:=by omega):p:=h
theorem og{p:Prop}(h:p:=by simp[Op.operands]):p:=h
theorem ve{p:Prop}(h:p:=by simp only[Jv];omega):p:=h
theorem qp{p:Prop}(h:p:=by decide):p:=h
theorem oI{p:Prop}(h:p:=by simp):p:=h
theorem qbf{p:Prop}(h:p:=by rw[he];simp[Sl.refs,Sv.refs,Lf.refs]):p:=h
theorem qbi{p:Prop}(h:p:=by rw[zC];omega):p:=h
theorem qbk{p:Prop}(h:p:=by rintro rfl;exact hfr _ (oC _) (by omega) (h.al _ _ hl)):p:=h
theorem qbm{p:Prop}(h:p:=by simpa using lift (a1:=[]) b2 _ fun x hx=>by simp only[Qbm,u_];exact .inr hx):p:=h
theorem qbq{p:Prop}(h:p:=by simp[Sl.refs,Sv.refs,Lf.refs]):p:=h
theorem qbr{p:Prop}(h:p:=by rw[hmr];exact vS.2 ⟨_,hx,hlx⟩):p:=h
theorem qbt{p:Prop}(h:p:=by simp;omega):p:=h
theorem qbv{p:Prop}(h:p:=by simpa using h):p:=h
theorem qby{p:Prop}(h:p:=by simp only[zC];omega):p:=h
theorem qbz{p:Prop}(h:p:=by rw[hx];simp):p:=h
theorem qb7{p:Prop}(h:p:=by simp[Lf.refs]):p:=h
theorem qb8{p:Prop}(h:p:=by subst hv6;simp only[qO,zC,Qc1];omega):p:=h
theorem qb9{p:Prop}(h:p:=by simpa[CE]using hlt):p:=h
theorem qc{p:Prop}(h:p:=by simp at hl⊢;exact .inr hl):p:=h
theorem qca{p:Prop}(h:p:=by simpa using hj):p:=h
theorem qcd{p:Prop}(h:p:=by simp only[Op.operands,Qb];exact⟨p,hp,rfl⟩):p:=h
theorem qch{p:Prop}(h:p:=by rw[Qb6];omega):p:=h
theorem qcj{p:Prop}(h:p:=by rw[hmr];exact vS.2 ⟨.tmp t,o6.1 ht,hl⟩):p:=h
theorem qck{p:Prop}(h:p:=by rw[hb];rfl):p:=h
theorem qcl{p:Prop}(h:p:=by simp[hl]):p:=h
theorem qcm{p:Prop}(h:p:=by simpa[yH]using hw):p:=h
theorem qcn{p:Prop}(h:p:=by rw[e9,Qb6];omega):p:=h
theorem qco{p:Prop}(h:p:=by simp[execOp,ho,hc,asBool]):p:=h
theorem qct{p:Prop}(h:p:=by simpa using hi):p:=h
theorem qcu{p:Prop}(h:p:=by rw[hsz];omega):p:=h
theorem qcv{p:Prop}(h:p:=by simpa using hx):p:=h
theorem qcw{p:Prop}(h:p:=by simp[hy]):p:=h
theorem qcx{p:Prop}(h:p:=by simpa using h1):p:=h
theorem qcz{p:Prop}(h:p:=by rw[e];rfl):p:=h
open Go.RowKit
inductive Pv where
 | bool (b:Bool)
 | int (k:IntKind) (n:Int)
 | str (s:List UInt8)
structure zF where
 t:TypeId
 agg:Bool
 xs:List Pv
def Pv.val:Pv->Value
 | .bool b=> .bool b
 | .int k n=> .int k n
 | .str s=> .string ⟨s.toArray⟩
def zF.inner (i:zF):Value:=
 match i.agg,i.xs with
 | false,[x]=>x.val
 | _,a=> .agg (a.map Pv.val).toArray
def Bj:Option zF->Value
 | none=> .nilIface
 | some i=> .iface i.t i.inner
def Pv.fits:Pv->Prop
 | .str s=>s.length<=9223372036854775807
 | _=>True
def aoF:Option zF->Prop
 | none=>True
 | some i=>∀p∈i.xs,p.fits
inductive Dl (D:Type):Type where
 | bool (b:Bool)
 | int (k:IntKind) (n:Int)
 | str (s:List UInt8)
 | dat (d:D)
 | avL
inductive Xt (D:Type):Type where
 | ifd (t:TypeId) (agg:Bool) (xs:List (Dl D))
 | clo (f:FuncId) (agg:Bool) (xs:List (Dl D))
 | clip (d:D)
inductive Lf (D:Type):Type where
 | any
 | val (v:Value)
 | bool (b:Bool)
 | int (k:IntKind) (n:Int)
 | str (s:List UInt8)
 | ptr (l off:Nat)
 | dat (d:D)
 | elt (d:D) (i j:Nat)
 | fn (f:FuncId) (caps:List Nat)
 | own (l:Nat)
 | opt (l i j sz:Nat)
 | unk (p:Bool->Prop)
 | part (l i j sz:Nat) (f:D->Option D)
 | glb (i:Nat)
 | O_ (v:Option zF)
 | xt (e:Xt D)
inductive Bk (D:Type):Type where
 | cells (cs:List (Lf D))
 | row (e:TypeId) (d:D)
 | uZ (d:D)
 | iter (s:List UInt8) (pos:Nat)
 | map (d:D)
 | tc (t:TypeId) (cs:List (Lf D))
inductive Sv (D:Type):Type where
 | lf (x:Lf D)
 | agg (xs:List (Lf D))
inductive Sl (D:Type):Type where
 | one (x:Sv D)
 | sO (xs:List (Sv D))
structure Mp (D:Type) where
 kind:Nat
 agg:Bool
 zero:List Pv
 kvs:List (Pv×List Pv)
 has:Pv->Bool
 get:Pv->List (Lf D)
 put:Pv->List Pv->D
 len:Nat
structure Sh (D:Type) where
 size:D->Nat
 len:D->Nat
 cell:D->Nat->Nat->Lf D
 make:TypeId->Nat->List (Lf D)->Option D
 zero:TypeId->Nat->List (Lf D)->Option D
 set:D->Nat->Nat->List (Lf D)->Option D
 cat:D->D->Option D
 sub:D->Nat->Nat->Option D
 KR:Nat->Option D
 text:TypeId->List UInt8->Option D
 mp:D->Option (Mp D):=fun _=>none
 run:Bool:=false
 aoi:TypeId->Option D:=fun _=>none
def ru (b:Bool)(a:List Pv):Value:=
 match b,a with
 | false,[x]=>x.val
 | _,a=> .agg (a.map Pv.val).toArray
def atB (w:World)(d:Bool)(a:List (Pv×List Pv))(v:Value):Prop:=
 (∀p∈a,p.1.fits/\∀x∈p.2,x.fits)/\((v= .map none/\a=[])\/
  ∃b c n,v= .map (some b)/\w.heap[b]? =some (.map c n)/\c.toList.map (fun e=>(e.key,e.val))=a.map fun p=>(p.1.val,ru d p.2))
def XY {D:Type}(S:Sh D)(a i j:Nat)(d:D):Option D:=if Nat.beq a (S.size d)then S.sub d i j else none
def Lf.plain {D:Type}:Lf D->Value->Prop
 | .val x,u=>u=x
 | .bool b,u=>u= .bool b
 | .int k n,u=>u= .int k n
 | .str s,u=>u= .string ⟨s.toArray⟩/\s.length<=9223372036854775807
 | .dat _,_=>True
 | .O_ v,u=>u=Bj v/\aoF v
 | _,_=>False
inductive BZ {D:Type} (S:Sh D) (w:World):D->Value->Prop where
 | mp (d:D) (m:Mp D) (v:Value) (hm:S.mp d=some m) (hl:S.len d=0) (hz:S.size d=0) (h:atB w m.agg m.kvs v):BZ S w d v
 | mk (d:D) (hno:S.mp d=none) (a:Option Addr) (cap:Nat) (U:Nat->Nat->Value) (hcap:S.len d<=cap) (hlen:S.len d<=9223372036854775807)
   (hcell:∀i j,i < S.len d->j < S.size d->∃ad,a=some ad/\w.cell? (ad.add (i*S.size d+j))=some (U i j))
   (hpl:∀i j,i < S.len d->j < S.size d->Lf.plain (S.cell d i j) (U i j))
   (hdat:∀i j d',i < S.len d->j < S.size d->S.cell d i j= .dat d'->BZ S w d' (U i j)):BZ S w d (.slice a (S.len d) cap)
def dD {D:Type}(S:Sh D)(M:Nat->Prop)(w:World)(d:D)(v:Value):Prop:=
 ∀w':World,(∀b,b < w.heap.size->¬M b->w'.heap[b]? =w.heap[b]?)->BZ S w' d v
def Lf.jE {D:Type}:Lf D->Bool
 | .bool _ | .int _ _ | .str _ | .dat _ | .O_ _=>true
 | _=>false
def Dl.Rel {D:Type}(S:Sh D)(M:Nat->Prop)(w:World):Dl D->Value->Prop
 | .bool b,v=>v= .bool b
 | .int k n,v=>v= .int k n
 | .str s,v=>v= .string ⟨s.toArray⟩/\s.length<=9223372036854775807
 | .dat d,v=>dD S M w d v
 | .avL,v=>v= .slice none 0 0
def ui {D:Type}(S:Sh D)(M:Nat->Prop)(w:World):List (Dl D)->List Value->Prop
 | [],[]=>True
 | x::b,v::a=>x.Rel S M w v/\ui S M w b a
 | _,_=>False
def Nr {D:Type}(S:Sh D)(M:Nat->Prop)(w:World):Bool->List (Dl D)->Value->Prop
 | false,[x],u=>x.Rel S M w u
 | true,b,u=>∃a:List Value,u= .agg a.toArray/\ui S M w b a
 | _,_,_=>False
def Xt.Rel {D:Type}(S:Sh D)(M:Nat->Prop)(w:World):Xt D->Value->Prop
 | .ifd t c b,v=>∃u,v= .iface t u/\Nr S M w c b u
 | .clo f c b,v=>∃u,v= .func (.func f) #[u] #[]/\Nr S M w c b u
 | .clip d,v=>∃a,v= .slice a (S.len d) (S.len d)/\dD S M w d v
def Lf.Rel {D:Type}(S:Sh D)(M:Nat->Prop)(w:World)(g:Nat->Option Value):Lf D->Value->Prop
 | .any,_=>True
 | .val x,v=>v=x
 | .bool b,v=>v= .bool b
 | .int k n,v=>v= .int k n
 | .str s,v=>v= .string ⟨s.toArray⟩/\s.length<=9223372036854775807
 | .ptr l o,v=>∃b,g l=some (.pointer (some ⟨b,0,none⟩))/\v= .pointer (some ⟨b,o,none⟩)
 | .dat d,v=>dD S M w d v
 | .elt d i j,v=>∃a n c,dD S M w d (.slice (some a) n c)/\i < S.len d/\v= .pointer (some (a.add (i*S.size d+j)))
 | .fn f m,v=>∃q:List Value,v= .func (.func f) #[] q.toArray/\m.map g=q.map some
 | .own l,v=>g l=some v
 | .opt l i j h,v=>∃b n c,g l=some (.slice (some ⟨b,0,none⟩) n c)/\v= .pointer (some ⟨b,i*h+j,none⟩)
 | .unk p,v=>∃b,v= .bool b/\p b
 | .part l i j h f,v=>∃a n c,g l=some (.slice a n c)/\v=sliced a i j c h/\i<=j/\j<=n/\f=XY S h i j
 | .glb i,v=>v= .pointer (some ⟨i,0,none⟩)
 | .O_ x,v=>v=Bj x/\aoF x
 | .xt e,v=>e.Rel S M w v
def aZ {D:Type}(S:Sh D)(M:Nat->Prop)(w:World)(g:Nat->Option Value):List (Lf D)->List Value->Prop
 | [],[]=>True
 | x::b,v::a=>x.Rel S M w g v/\aZ S M w g b a
 | _,_=>False
def Sv.Rel {D:Type}(S:Sh D)(M:Nat->Prop)(w:World)(g:Nat->Option Value):Sv D->Value->Prop
 | .lf x,v=>x.Rel S M w g v
 | .agg b,v=>∃a:List Value,v= .agg a.toArray/\aZ S M w g b a
def iF {D:Type}(S:Sh D)(M:Nat->Prop)(w:World)(g:Nat->Option Value):List (Sv D)->List Value->Prop
 | [],[]=>True
 | x::b,v::a=>x.Rel S M w g v/\iF S M w g b a
 | _,_=>False
def Sl.Rel {D:Type}(S:Sh D)(M:Nat->Prop)(w:World)(g:Nat->Option Value):Sl D->Value->Prop
 | .one x,v=>x.Rel S M w g v
 | .sO b,v=>∃a:List Value,v= .tuple a.toArray/\iF S M w g b a
structure Keeps (M:Nat->Prop)(w:World)(M':Nat->Prop)(w':World):Prop where
 size:w.heap.size<=w'.heap.size
 same:∀b,b < w.heap.size->¬M b->¬M' b/\w'.heap[b]? =w.heap[b]?
section
variable {D:Type}{S:Sh D}{M M':Nat->Prop}{w w':World}{g g':Nat->Option Value}
theorem dD.keep {d:D}{v:Value}(h:dD S M w d v)(k:Keeps M w M' w'):dD S M' w' d v:=fun c f=>
 h c fun b a e=>(f b (Qb8 a k.size) (k.same b a e).1).trans (k.same b a e).2
theorem Dl.Rel.keep {x:Dl D}{v:Value}(h:x.Rel S M w v)(k:Keeps M w M' w'):x.Rel S M' w' v:=by
 cases x with
 | dat d=>exact dD.keep h k
 | _=>exact h
theorem ui.keep:∀{b:List (Dl D)} {a:List Value},ui S M w b a->Keeps M w M' w'->ui S M' w' b a
 | [],[],_,_=>trivial
 | x::b,v::a,h,k=>⟨h.1.keep k,ui.keep h.2 k⟩
theorem Nr.keep:∀{b:Bool} {a:List (Dl D)} {u:Value},Nr S M w b a u->Keeps M w M' w'->Nr S M' w' b a u
 | false,[x],u,h,k=>Dl.Rel.keep h k
 | true,a,u,h,k=>by obtain⟨c,e,d⟩:=h;exact⟨c,e,d.keep k⟩
theorem Xt.Rel.keep {e:Xt D}{v:Value}(h:e.Rel S M w v)(k:Keeps M w M' w'):e.Rel S M' w' v:=by
 cases e with
 | ifd t i g=>obtain⟨u,c,b⟩:=h;exact⟨u,c,b.keep k⟩
 | clo f i g=>obtain⟨u,c,b⟩:=h;exact⟨u,c,b.keep k⟩
 | clip d=>obtain⟨a,c,b⟩:=h;exact⟨a,c,dD.keep b k⟩
theorem dD.mono {d:D}{v:Value}{a:Nat->Prop}(h:dD S M w d v)(i:∀b,a b->M b):dD S a w d v:=fun c f=>h c fun b e g=>f b e fun j=>g (i b j)
theorem Dl.Rel.mono {a:Nat->Prop}{x:Dl D}{v:Value}(h:x.Rel S M w v)(c:∀b,a b->M b):x.Rel S a w v:=by
 cases x with
 | dat d=>exact dD.mono h c
 | _=>exact h
theorem ui.mono {a:Nat->Prop}(e:∀b,a b->M b):∀{d:List (Dl D)} {c:List Value},ui S M w d c->ui S a w d c
 | [],[],_=>trivial
 | x::d,v::c,h=>⟨h.1.mono e,ui.mono e h.2⟩
theorem Nr.mono {a:Nat->Prop}(d:∀b,a b->M b):∀{e:Bool} {c:List (Dl D)} {u:Value},Nr S M w e c u->Nr S a w e c u
 | false,[x],u,h=>Dl.Rel.mono h d
 | true,c,u,h=>by obtain⟨f,i,g⟩:=h;exact⟨f,i,g.mono d⟩
theorem Xt.Rel.mono {c:Nat->Prop}{e:Xt D}{v:Value}(h:e.Rel S M w v)(j:∀b,c b->M b):e.Rel S c w v:=by
 cases e with
 | ifd t l k=>obtain⟨u,i,g⟩:=h;exact⟨u,i,g.mono j⟩
 | clo f l k=>obtain⟨u,i,g⟩:=h;exact⟨u,i,g.mono j⟩
 | clip d=>obtain⟨a,i,g⟩:=h;exact⟨a,i,dD.mono g j⟩
def ab5 (S:Sh D)(M:Nat->Prop)(w:World):Prop:=∀i d,S.KR i=some d->dD S M w d (.slice (some ⟨i,0,none⟩) (S.len d) (S.len d))
theorem ab5.keep (h:ab5 S M w)(k:Keeps M w M' w'):ab5 S M' w':=fun i d a=>(h i d a).keep k
theorem ab5.mono {a:Nat->Prop}(h:ab5 S M w)(c:∀b,a b->M b):ab5 S a w:=fun i d e=>(h i d e).mono c
def More (g a:Nat->Option Value):Prop:=∀l v,g l=some v->a l=some v
theorem More.refl (g:Nat->Option Value):More g g:=fun _ _ h=>h
theorem More.map:∀{a:List Nat} {b:List Value},More g g'->a.map g=b.map some->a.map g'=b.map some
 | [],[],_,_=>rfl
 | c::a,v::b,m,h=>by
  simp only[H7,Qdn]at h⊢;exact⟨m _ _ h.1,More.map m h.2⟩
 | [],_::_,_,h=>by simp at h
 | _::_,[],_,h=>by simp at h
theorem Lf.Rel.keep {x:Lf D}{v:Value}(h:x.Rel S M w g v)(k:Keeps M w M' w')(m:More g g'):x.Rel S M' w' g' v:=by
 cases x with
 | any=>trivial
 | val x=>exact h
 | bool b=>exact h
 | int k n=>exact h
 | str s=>exact h
 | ptr l o=>obtain⟨b,q,c⟩:=h;exact⟨b,m _ _ q,c⟩
 | dat d=>exact dD.keep h k
 | elt d i j=>obtain⟨a,n,r,q,c⟩:=h;exact⟨a,n,r,q.keep k,c⟩
 | fn f u=>obtain⟨t,q,c⟩:=h;exact⟨t,q,More.map m c⟩
 | own l=>exact m _ _ h
 | opt l i j y=>obtain⟨b,n,r,q,c⟩:=h;exact⟨b,n,r,m _ _ q,c⟩
 | unk p=>exact h
 | part l i j y f=>obtain⟨a,n,r,q,c⟩:=h;exact⟨a,n,r,m _ _ q,c⟩
 | glb i=>exact h
 | O_ x=>exact h
 | xt e=>exact Xt.Rel.keep h k
theorem aZ.keep:∀{b:List (Lf D)} {a:List Value},aZ S M w g b a->Keeps M w M' w'->More g g'->aZ S M' w' g' b a
 | [],[],_,_,_=>trivial
 | x::b,v::a,h,k,m=>⟨h.1.keep k m,aZ.keep h.2 k m⟩
theorem aZ.length:∀{b:List (Lf D)} {a:List Value},aZ S M w g b a->b.length=a.length
 | [],[],_=>rfl
 | _::_,_::_,h=>by simp[aZ.length h.2]
theorem aZ.get:∀{b:List (Lf D)} {a:List Value} (i:Nat) {x:Lf D},aZ S M w g b a->b[i]? =some x->∃v,a[i]? =some v/\x.Rel S M w g v
 | [],[],i,x,_,h=>by simp at h
 | y::b,v::a,0,x,h,e=>⟨v,rfl,by simp at e;exact e▸h.1⟩
 | y::b,v::a,i+1,x,h,e=>by simpa using aZ.get i h.2 (by simpa using e)
theorem Sv.Rel.keep {x:Sv D}{v:Value}(h:x.Rel S M w g v)(k:Keeps M w M' w')(m:More g g'):x.Rel S M' w' g' v:=by
 cases x with
 | lf x=>exact Lf.Rel.keep h k m
 | agg c=>obtain⟨a,rfl,b⟩:=h;exact⟨a,rfl,b.keep k m⟩
theorem iF.keep:∀{b:List (Sv D)} {a:List Value},iF S M w g b a->Keeps M w M' w'->More g g'->iF S M' w' g' b a
 | [],[],_,_,_=>trivial
 | x::b,v::a,h,k,m=>⟨h.1.keep k m,iF.keep h.2 k m⟩
theorem iF.get:∀{b:List (Sv D)} {a:List Value} (i:Nat) {x:Sv D},iF S M w g b a->b[i]? =some x->∃v,a[i]? =some v/\x.Rel S M w g v
 | [],[],i,x,_,h=>by simp at h
 | y::b,v::a,0,x,h,e=>⟨v,rfl,by simp at e;exact e▸h.1⟩
 | y::b,v::a,i+1,x,h,e=>by simpa using iF.get i h.2 (by simpa using e)
theorem iF.length:∀{b:List (Sv D)} {a:List Value},iF S M w g b a->b.length=a.length
 | [],[],_=>rfl
 | _::_,_::_,h=>by simp[iF.length h.2]
theorem Sl.Rel.keep {x:Sl D}{v:Value}(h:x.Rel S M w g v)(k:Keeps M w M' w')(m:More g g'):x.Rel S M' w' g' v:=by
 cases x with
 | one x=>exact Sv.Rel.keep h k m
 | sO c=>obtain⟨a,rfl,b⟩:=h;exact⟨a,rfl,b.keep k m⟩
theorem dD.cell {d:D}{a:Addr}{n F i j:Nat}(h:dD S M w d (.slice (some a) n F))(H:i < S.len d)(G:j < S.size d):
  ∃u,w.cell? (a.add (i*S.size d+j))=some u/\(S.cell d i j).Rel S M w g u:=by
 classical
 let B:World:={w with heap:=(Array.range w.heap.size).map fun b=>if M b then Obj.map #[] 0 else(w.heap[b]?).getD (Obj.map #[] 0)}
 have N:∀b,b < w.heap.size->¬M b->B.heap[b]? =w.heap[b]? :=by
  intro b r z;simp[B,r,z]
 have L:∀p:Addr,(B.cell? p).isSome=true->p.block < w.heap.size/\¬M p.block:=by
  intro p J;simp only[World.cell?,B]at J;by_cases r:p.block < w.heap.size
  ·refine⟨r,fun z=> ?_⟩;simp[r,z]at J
  ·simp[r]at J
 have A:∀w':World,(∀b,b < w.heap.size->¬M b->w'.heap[b]? =w.heap[b]?)->∃u,w'.cell? (a.add (i*S.size d+j))=some u/\Lf.plain (S.cell d i j) u/\∀q,S.cell d i j= .dat q->BZ S w' q u:=by
  intro w' E;generalize V:Value.slice (some a) n F=v at h;have hd:=h w' E;cases hd with
  | mp d m v z hl hz h=>omega
  | mk d hno a' X U Y R C c I=>
   injection V with h1 h2 h3
   obtain⟨ad,t,hc⟩:=C i j H G;rw[<-h1]at t;injection t with t
   subst t;exact⟨U i j,hc,c i j H G,fun q Q=>I i j q H G Q⟩
 obtain⟨ux,P,_⟩:=A B N;obtain⟨r,z⟩:=L _ (by rw[P];rfl);obtain⟨u,O,c,hdt⟩:=A w (fun _ _ _=>rfl);refine⟨u,O,?_⟩;generalize hx:S.cell d i j=x at*;cases x with
 | val x=>exact c
 | bool b=>exact c
 | int k n=>exact c
 | str s=>exact c
 | dat q=>
  intro w' E;obtain⟨W,y,_,K⟩:=A w' E;have:W=u:=by
   have e:w'.cell? (a.add (i*S.size d+j))=w.cell? (a.add (i*S.size d+j)):=by
    simp only[World.cell?,E _ r z]
   rw[e,O]at y;injection y with y
   exact y.symm
  rw[<-this];exact K q rfl
 | any=>exact c.elim
 | ptr l o=>exact c.elim
 | elt q i' j'=>exact c.elim
 | fn f Z=>exact c.elim
 | own l=>exact c.elim
 | opt l i j T=>exact c.elim
 | unk p=>exact c.elim
 | part l i j T f=>exact c.elim
 | glb i=>exact c.elim
 | O_ x=>exact c
 | xt e=>exact c.elim
theorem dD.slice {d:D}{v:Value}(h:dD S M w d v)(n:0 < S.size d):∃a b,v= .slice a (S.len d) b/\S.len d<=b:=by
 have i:=h w (fun _ _ _=>rfl);cases i with
 | mp d m v p o l h=>omega
 | mk d k a b U c f e j g=>exact⟨a,b,rfl,c⟩
theorem dD.slice' {d:D}{v:Value}(h:dD S M w d v)(g:S.mp d=none):∃a b,v= .slice a (S.len d) b/\S.len d<=b:=by
 have k:=h w (fun _ _ _=>rfl);cases k with
 | mp d m v e p o h=>rw[g]at e;cases e
 | mk d n a b U c i f l j=>exact⟨a,b,rfl,c⟩
theorem dD.form {d:D}{v:Value}(h:dD S M w d v):(∃a c,v= .slice a (S.len d) c)\/∃r,v= .map r:=by
 have j:=h w (fun _ _ _=>rfl);cases j with
 | mp d m v p o n h=>rcases h.2 with⟨h,_⟩ | ⟨b,_,_,h,_⟩<;>exact .inr ⟨_,h⟩
 | mk d l a c U g f e k i=>exact .inl ⟨a,c,rfl⟩
theorem dD.map {d:D}{v:Value}{m:Mp D}(h:dD S M w d v)(f:S.mp d=some m):atB w m.agg m.kvs v:=by
 have l:=h w (fun _ _ _=>rfl);cases l with
 | mp d q v c r p h=>rw[f]at c;injection c with e;exact e▸h
 | mk d b a n U j i g o k=>rw[f]at b;cases b
theorem dD.aiy {d:D}{v:Value}(h:dD S M w d v):S.len d<=9223372036854775807:=by
 have g:=h w (fun _ _ _=>rfl);cases g with
 | mp d m v o n l h=>omega
 | mk d k a i U e b c j f=>exact b
theorem dD.Aw {d:D}{a:Option Addr}{n c i:Nat}(h:dD S M w d (.slice a n c))(j:i < S.len d)(o:0 < S.size d):∃e,a=some e:=by
 generalize l:Value.slice a n c=v at h;have s:=h w (fun _ _ _=>rfl);cases s with
 | mp d m v C x A h=>omega
 | mk d u y p U q g b t k=>
  injection l with r z B
  obtain⟨e,f,_⟩:=b i 0 j o;exact⟨e,r.trans f⟩
end
end Go.Vc
namespace Go.Vc
open Go.RowKit
def upd {a:Type}(f:Nat->a)(k:Nat)(v:a):Nat->a:=fun n=>if n=k then v else f n
theorem upd_same {a:Type}(f:Nat->a)(k:Nat)(v:a):upd f k v k=v:=by simp[upd]
theorem bM {a:Type}(f:Nat->a)(k n:Nat)(v:a)(h:n≠k):upd f k v n=f n:=by simp[upd,h]
def eP:Value->Option Nat
 | .pointer (some a)=>some a.block
 | .slice (some a) _ _=>some a.block
 | .map (some r)=>some r
 | _=>none
def isRef:Value->Bool
 | .pointer _ | .slice _ _ _ | .map _=>true
 | _=>false
structure Bs where
 w:World
 X:Nat->Prop
def Bs.Mine (B:Bs)(b:Nat):Prop:=B.w.heap.size<=b\/B.X b
structure zx (B:Bs)(w':World):Prop where
 os:w'.os=B.w.os
 tape:w'.tape=B.w.tape
 output:w'.output=B.w.output
 size:B.w.heap.size<=w'.heap.size
 block:∀k,k < B.w.heap.size->¬B.X k->w'.heap[k]? =B.w.heap[k]?
theorem zx.refl (B:Bs):zx B B.w:=⟨rfl,rfl,rfl,oC _,fun _ _ _=>rfl⟩
theorem zx.grow {B:Bs}{w b:World}(h:zx B w)(k:Below w.heap.size w b):zx B b:=
 ⟨k.os.trans h.os,k.tape.trans h.tape,k.output.trans h.output,EZ h.size k.size,fun i a c=>(k.block i (Qb8 a h.size)).trans (h.block i a c)⟩
def hot {D:Type}:Option (Bk D)->Bool
 | some (.cells _)=>true
 | some (.row _ _)=>true
 | some (.iter _ _)=>true
 | some (.map _)=>true
 | some (.tc _ _)=>true
 | _=>false
def azD (w:World)(b:Nat)(t:TypeId)(a:List Value):Prop:=
 ∃u0,w.heap[b]? =some (.cells (List.toArray (u0::a)) t (0,0))/\(u0= .pointer none\/u0= .pointer (some ⟨b,0,none⟩))
theorem azD.same {w c:World}{b:Nat}{t:TypeId}{a:List Value}(h:azD w b t a)(e:c.heap[b]? =w.heap[b]?):azD c b t a:=by
 obtain⟨u0,f,d⟩:=h;exact⟨u0,e.trans f,d⟩
def xC {D:Type}(S:Sh D)(M:Nat->Prop)(w:World)(g:Nat->Option Value)(B:Bs):Bk D->Value->Prop
 | .cells cs,v=>∃b a t,v= .pointer (some ⟨b,0,none⟩)/\B.Mine b/\w.heap[b]? =some (.cells (List.toArray a) t (0,0))/\aZ S M w g cs a
 | .uZ d,v=>dD S M w d v
 | .iter s p,v=>s.length<=9223372036854775807/\∃b,v= .pointer (some ⟨b,0,none⟩)/\B.Mine b/\w.heap[b]? =some (.stringIter ⟨s.toArray⟩ p)
 | .map d,v=>∃m b c n,S.mp d=some m/\(∀p∈m.kvs,p.1.fits/\∀x∈p.2,x.fits)/\v= .map (some b)/\B.Mine b/\w.heap[b]? =some (.map c n)/\c.toList.map (fun e=>(e.key,e.val))=m.kvs.map fun p=>(p.1.val,ru m.agg p.2)
 | .tc t cs,v=>∃b a,v= .pointer (some ⟨b,0,none⟩)/\B.Mine b/\azD w b t a/\aZ S M w g cs a
 | .row e d,v=>((∀b,eP v=some b->B.Mine b)/\S.len d<=9223372036854775807/\S.mp d=none)/\∃f,w.ownsRow 0 e (S.size d) v (S.len d) f/\
   ∀i j,i < S.len d->j < S.size d->∃u,f[i*S.size d+j]? =some u/\(S.cell d i j).jE=true/\(S.cell d i j).Rel S M w g u
def aV {D:Type}(N:Nat->Prop)(a:Nat->Option (Bk D))(g:Nat->Option Value):Nat->Prop:=
 fun b=>N b\/∃l v,hot (a l)=true/\g l=some v/\eP v=some b
structure Hp {D:Type}(S:Sh D)(w0:Bs)(N:Nat->Prop)(blk:Nat->Option (Bk D))(g:Nat->Option Value)(al:Nat->Prop)(w:World):Prop where
 below:zx w0 w
 hN:∀b,N b->b < w0.w.heap.size/\¬w0.X b
 dn:∀l bk,blk l=some bk->∃v,g l=some v/\xC S (aV N blk g) w g w0 bk v
 sep:∀l l' v v' b,hot (blk l)=true->hot (blk l')=true->g l=some v->g l'=some v'->eP v=some b->eP v'=some b->l=l'
 al:∀l v,g l=some v->al l
 refs:∀l v,g l=some v->isRef v=true
 gl:ab5 S (aV N blk g) w
section
variable {D:Type}{S:Sh D}{M M' N:Nat->Prop}{w w':World}{w0:Bs}{g g':Nat->Option Value}{blk:Nat->Option (Bk D)}{al:Nat->Prop}{B:Bs}
theorem vG {w:World}{b:Nat}{o:Obj}(h:w.heap[b]? =some o):b < w.heap.size:=by
 rcases Qd6 b w.heap.size with a | a
 ·exact a
 ·rw[Array.getElem?_eq_none a]at h;cases h
theorem xC.lt {j:Bk D}{v:Value}{b:Nat}(h:xC S M w g B j v)(c:hot (some j)=true)(a:eP v=some b):b < w.heap.size/\B.Mine b:=by
 cases j with
 | cells cs=>
  obtain⟨i,k,t,rfl,f,c,_⟩:=h;simp only[eP,Nj]at a;subst a;exact⟨vG c,f⟩
 | row e d=>
  obtain⟨l,u,⟨_,h⟩,_⟩:=h;rcases h with⟨rfl,_⟩ | ⟨g',o,q,rfl,f,c,_⟩
  ·simp[eP]at a
  ·have:=l.1 b a;simp only[eP,Nj]at a;subst a;exact⟨vG c,this⟩
 | uZ d=>simp[hot]at c
 | iter s p=>
  obtain⟨_,i,rfl,f,c⟩:=h;simp only[eP,Nj]at a;subst a;exact⟨vG c,f⟩
 | map d=>
  obtain⟨m,i,r,n,_,_,rfl,f,c,_⟩:=h;simp only[eP,Nj]at a;subst a;exact⟨vG c,f⟩
 | tc t cs=>
  obtain⟨i,k,rfl,f,⟨u0,c,_⟩,_⟩:=h;simp only[eP,Nj]at a;subst a;exact⟨vG c,f⟩
theorem xC.isRef {f:Bk D}{v:Value}(h:xC S M w g B f v):isRef v=true:=by
 cases f with
 | cells cs=>obtain⟨b,i,t,rfl,_⟩:=h;rfl
 | row e d=>
  obtain⟨_,l,⟨_,h⟩,_⟩:=h;rcases h with⟨rfl,_⟩ | ⟨g',c,j,rfl,_⟩<;>rfl
 | uZ d=>
  rcases dD.form h with⟨a,c,rfl⟩ | ⟨r,rfl⟩<;>rfl
 | iter s p=>obtain⟨_,b,rfl,_⟩:=h;rfl
 | map d=>obtain⟨m,b,k,n,_,_,rfl,_⟩:=h;rfl
 | tc t cs=>obtain⟨b,i,rfl,_⟩:=h;rfl
theorem xC.keep {q:Bk D}{v:Value}(h:xC S M w g B q v)(k:Keeps M w M' w')(m:More g g')(l:hot (some q)=true->∀b,eP v=some b->w'.heap[b]? =w.heap[b]?):xC S M' w' g' B q v:=by
 cases q with
 | cells cs=>
  obtain⟨b,x,t,rfl,c,a,f⟩:=h;exact⟨b,x,t,rfl,c,(l rfl b rfl).trans a,f.keep k m⟩
 | row e d=>
  obtain⟨y,K,⟨r,h⟩,L⟩:=h;refine⟨y,K,⟨r,?_⟩,fun i j E C=> ?_⟩
  ·rcases h with h | ⟨g',z,A,rfl,c,a,o⟩
   ·exact .inl h
   ·exact .inr ⟨g',z,A,rfl,c,(l rfl g' rfl).trans a,o⟩
  ·obtain⟨u,H,G,J⟩:=L i j E C;exact⟨u,H,G,J.keep k m⟩
 | uZ d=>exact dD.keep h k
 | iter s p=>
  obtain⟨r,b,rfl,c,a⟩:=h;exact⟨r,b,rfl,c,(l rfl b rfl).trans a⟩
 | map d=>
  obtain⟨m,b,F,n,y,I,rfl,c,a,f⟩:=h;exact⟨m,b,F,n,y,I,rfl,c,(l rfl b rfl).trans a,f⟩
 | tc t cs=>
  obtain⟨b,x,rfl,c,a,f⟩:=h;exact⟨b,x,rfl,c,a.same (l rfl b rfl),f.keep k m⟩
theorem jJ {x:Option (Bk D)}(h:hot x=true):∃a,x=some a/\hot (some a)=true:=by
 cases x with
 | none=>simp[hot]at h
 | some a=>exact⟨a,rfl,h⟩
theorem Keeps.refl (M:Nat->Prop)(w:World):Keeps M w M w:=⟨oC _,fun _ _ h=>⟨h,rfl⟩⟩
theorem Hp.at (h:Hp S w0 N blk g al w){l:Nat}{v:Value}(i:hot (blk l)=true)(e:g l=some v):∃b,blk l=some b/\hot (some b)=true/\xC S (aV N blk g) w g w0 b v:=by
 obtain⟨b,c,f⟩:=jJ i;obtain⟨j,a,d⟩:=h.dn l b c;rw[e]at a;injection a with a
 subst a;exact⟨b,c,f,d⟩
theorem Hp.mlt (h:Hp S w0 N blk g al w){b:Nat}(a:aV N blk g b):b < w.heap.size:=by
 rcases a with a | ⟨l,v,i,e,d⟩
 ·exact Qb8 (h.hN b a).1 h.below.size
 ·obtain⟨j,_,f,c⟩:=h.at i e;exact(c.lt f d).1
theorem Hp.grow (h:Hp S w0 N blk g al w)(a:Below w.heap.size w w'):Hp S w0 N blk g al w'/\Keeps (aV N blk g) w (aV N blk g) w':=by
 have d:Keeps (aV N blk g) w (aV N blk g) w':=⟨a.size,fun b e j=>⟨j,a.block b e⟩⟩;refine⟨⟨h.below.grow a,h.hN,fun l n m=> ?_,h.sep,h.al,h.refs,h.gl.keep d⟩,d⟩;obtain⟨v,i,c⟩:=h.dn l n m;exact⟨v,i,c.keep d (More.refl _) fun k b f=>a.block b (c.lt k f).1⟩
theorem Hp.add (h:Hp S w0 N blk g al w)(C:Below w.heap.size w w'){l:Nat}{bk:Bk D}{v:Value}(U:¬al l)(K:∀b,eP v=some b->w.heap.size<=b)
  (G:∀L,Keeps (aV N blk g) w L w'->(∀c,L c->aV N blk g c\/eP v=some c)->xC S L w' (upd g l (some v)) w0 bk v):
  Hp S w0 N (upd blk l (some bk)) (upd g l (some v)) (fun n=>al n\/n=l) w'/\Keeps (aV N blk g) w (aV N (upd blk l (some bk)) (upd g l (some v))) w'/\More g (upd g l (some v)):=by
 have I:g l=none:=by
  cases V:g l with
  | none=>rfl
  | some u=>exact absurd (h.al l u V) U
 have Y:blk l=none:=by
  cases X:blk l with
  | none=>rfl
  | some x=>
   obtain⟨u,B,_⟩:=h.dn l x X;rw[I]at B;cases B
 have R:More g (upd g l (some v)):=fun n u e=>by
  rw[bM _ _ _ _ (by rintro rfl;rw[I]at e;cases e)];exact e
 have z:Keeps (aV N blk g) w (aV N (upd blk l (some bk)) (upd g l (some v))) w':=by
  refine⟨C.size,fun b M F=>⟨?_,C.block b M⟩⟩;rintro(r | ⟨o,u,k,d,p⟩)
  ·exact F (.inl r)
  ·by_cases f:o=l
   ·subst f;rw[upd_same]at d;injection d with d
    subst d;exact absurd (K b p) au
   ·rw[bM _ _ _ _ f]at k d;exact F (.inr ⟨o,u,k,d,p⟩)
 have H:∀c,aV N (upd blk l (some bk)) (upd g l (some v)) c->aV N blk g c\/eP v=some c:=by
  rintro c (r | ⟨o,u,k,d,p⟩)
  ·exact .inl (.inl r)
  ·by_cases f:o=l
   ·subst f;rw[upd_same]at d;injection d with d
    subst d;exact .inr p
   ·rw[bM _ _ _ _ f]at k d;exact .inl (.inr ⟨o,u,k,d,p⟩)
 refine⟨⟨h.below.grow C,h.hN,fun o x m=> ?_,?_,?_,?_,h.gl.keep z⟩,z,R⟩
 ·by_cases f:o=l
  ·subst f;rw[upd_same]at m;injection m with m
   subst m;exact⟨v,upd_same _ _ _,G _ z H⟩
  ·rw[bM _ _ _ _ f]at m⊢;obtain⟨u,B,P⟩:=h.dn o x m;exact⟨u,B,P.keep z R fun W b Q=>C.block b (P.lt W Q).1⟩
 ·intro a b O T c J t i j s y;have E:∀n u c,n≠l->hot (upd blk l (some bk) n)=true->upd g l (some v) n=some u->eP u=some c->c < w.heap.size:=by
   intro n u c e k d p;rw[bM _ _ _ _ e]at k d;exact h.mlt (.inr ⟨n,u,k,d,p⟩)
  by_cases q:a=l
  ·by_cases A:b=l
   ·rw[q,A]
   ·have k:=E b T c A t j y;subst q;rw[upd_same]at i;injection i with i
    subst i;have:=K c s;omega
  ·by_cases A:b=l
   ·have k:=E a O c q J i s;subst A;rw[upd_same]at j;injection j with j
    subst j;have:=K c y;omega
   ·rw[bM _ _ _ _ q]at J i;rw[bM _ _ _ _ A]at t j;exact h.sep a b O T c J t i j s y
 ·intro n u e;by_cases f:n=l
  ·exact .inr f
  ·rw[bM _ _ _ _ f]at e;exact .inl (h.al n u e)
 ·intro n u e;by_cases f:n=l
  ·subst f;rw[upd_same]at e;injection e with e
   subst e;exact(G _ z H).isRef
  ·rw[bM _ _ _ _ f]at e;exact h.refs n u e
theorem Hp.write (h:Hp S w0 N blk g al w){l b:Nat}{C bk':Bk D}{v:Value}(p:blk l=some C)(q:hot (some C)=true)(K:hot (some bk')=true)(t:g l=some v)(A:eP v=some b)
  (T:w'.os=w.os) (M:w'.tape=w.tape) (B:w'.output=w.output) (y:w'.heap.size=w.heap.size) (f:∀n,n≠b->w'.heap[n]? =w.heap[n]?)
  (L:Keeps (aV N blk g) w (aV N blk g) w'->xC S (aV N blk g) w' g w0 bk' v):
  Hp S w0 N (upd blk l (some bk')) g al w'/\Keeps (aV N blk g) w (aV N (upd blk l (some bk')) g) w':=by
 have j:∀n,hot (upd blk l (some bk') n)=hot (blk n):=by
  intro n;by_cases o:n=l
  ·subst o;simp[upd_same,p,q,K]
  ·rw[bM _ _ _ _ o]
 have z:aV N (upd blk l (some bk')) g=aV N blk g:=by
  funext c;simp only[aV,j]
 have J:aV N blk g b:= .inr ⟨l,v,by rw[p];exact q,t,A⟩;obtain⟨X,m,Q⟩:=h.dn l C p;rw[t]at m;injection m with m
 subst m;have H:=(Q.lt q A).2;have r:Keeps (aV N blk g) w (aV N blk g) w':=⟨Qc9 y.symm,fun c _ x=>⟨x,f c (fun e=>x (e▸J))⟩⟩;refine⟨⟨⟨T.trans h.below.os,M.trans h.below.tape,B.trans h.below.output,y▸h.below.size,fun k F P=>(f k ?_).trans (h.below.block k F P)⟩,h.hN,?_,?_,h.al,h.refs,by rw[z];exact h.gl.keep r⟩,z▸r⟩
 ·rintro rfl;rcases H with O | O
  ·omega
  ·exact P O
 ·intro n R i;rw[z];by_cases o:n=l
  ·subst o;rw[upd_same]at i;injection i with i
   subst i;exact⟨v,t,L r⟩
  ·rw[bM _ _ _ _ o]at i;obtain⟨u,E,W⟩:=h.dn n R i;refine⟨u,E,W.keep r (More.refl _) fun G c s=>f c ?_⟩;rintro rfl;exact o (h.sep n l u v c (by rw[i];exact G) (by rw[p];exact q) E t s A)
 ·intro a c U V d I s;rw[j]at I s;exact h.sep a c U V d I s
theorem Hp.aKg (h:Hp S w0 N blk g al w)(l:Nat)(x:Option (Bk D))(E:hot x=false)(o:∀i,x=some i->∃v,g l=some v/\xC S (aV N (upd blk l x) g) w g w0 i v):
  Hp S w0 N (upd blk l x) g al w/\Keeps (aV N blk g) w (aV N (upd blk l x) g) w:=by
 have f:∀n,hot (upd blk l x n)=true->hot (blk n)=true:=by
  intro n e;by_cases m:n=l
  ·subst m;rw[upd_same,E]at e;cases e
  ·rwa [bM _ _ _ _ m]at e
 have k:Keeps (aV N blk g) w (aV N (upd blk l x) g) w:=by
  refine⟨oC _,fun b _ p=>⟨?_,rfl⟩⟩;rintro(e | ⟨n,u,A,z,B⟩)
  ·exact p (.inl e)
  ·exact p (.inr ⟨n,u,f n A,z,B⟩)
 refine⟨⟨h.below,h.hN,fun n i e=> ?_,fun a c r t d s C=>h.sep a c r t d (f a s) (f c C),h.al,h.refs,h.gl.keep k⟩,k⟩;by_cases j:n=l
 ·subst j;rw[upd_same]at e;exact o i e
 ·rw[bM _ _ _ _ j]at e;obtain⟨u,q,y⟩:=h.dn n i e;exact⟨u,q,y.keep k (More.refl _) fun _ _ _=>rfl⟩
theorem Hp.move (h:Hp S w0 N blk g al w){l fr:Nat}{bk':Bk D}{v v':Value}(H:hot (blk l)=true)(y:g l=some v)(hfr:¬al fr)
  (hos:w'.os=w.os) (htp:w'.tape=w.tape) (W:w'.output=w.output) (Q:w.heap.size<=w'.heap.size) (q:∀n,n < w.heap.size->eP v≠some n->w'.heap[n]? =w.heap[n]?)
  (O:∀b,eP v'=some b->eP v=some b\/w.heap.size<=b)
  (P:∀U,Keeps (aV N blk g) w U w'->(∀c,U c->aV N blk g c\/eP v'=some c)->xC S U w' (upd g fr (some v')) w0 bk' v'):
  Hp S w0 N (upd (upd blk l none) fr (some bk')) (upd g fr (some v')) (fun n=>al n\/n=fr) w'/\Keeps (aV N blk g) w (aV N (upd (upd blk l none) fr (some bk')) (upd g fr (some v'))) w'/\More g (upd g fr (some v')):=by
 have hgl:g fr=none:=by
  cases y:g fr with
  | none=>rfl
  | some u=>exact absurd (h.al fr u y) hfr
 have hm:More g (upd g fr (some v')):=fun n u d=>by
  rw[bM _ _ _ _ (by rintro rfl;rw[hgl]at d;cases d)];exact d
 have p:∀n,n≠fr->hot (upd (upd blk l none) fr (some bk') n)=true->n≠l/\hot (blk n)=true:=by
  intro n d f;rw[bM _ _ _ _ d]at f;by_cases i:n=l
  ·subst i;rw[upd_same]at f;simp[hot]at f
  ·rw[bM _ _ _ _ i]at f;exact⟨i,f⟩
 have F:∀c,aV N (upd (upd blk l none) fr (some bk')) (upd g fr (some v')) c->aV N blk g c\/eP v'=some c:=by
  rintro c (X | ⟨T,u,f,j,G⟩)
  ·exact .inl (.inl X)
  ·by_cases i:T=fr
   ·subst i;rw[upd_same]at j;injection j with j
    subst j;exact .inr G
   ·have h1':=(p T i f).2;rw[bM _ _ _ _ i]at j;exact .inl (.inr ⟨T,u,h1',j,G⟩)
 have K:∀b,eP v=some b->aV N blk g b:=fun b C=> .inr ⟨l,v,H,y,C⟩
 have E:Keeps (aV N blk g) w (aV N (upd (upd blk l none) fr (some bk')) (upd g fr (some v'))) w':=by
  refine⟨Q,fun b aa A=>⟨fun C=> ?_,q b aa fun e=>A (K b e)⟩⟩;rcases F b C with f | f
  ·exact A f
  ·rcases O b f with j | j
   ·exact A (K b j)
   ·omega
 have CS:∀b,eP v=some b->w0.Mine b:=fun b C=>by
  obtain⟨bk,_,J,V⟩:=h.at H y;exact(V.lt J C).2
 refine⟨⟨⟨hos.trans h.below.os,htp.trans h.below.tape,W.trans h.below.output,EZ h.below.size Q,fun k L hx=>(q k (Qb8 L h.below.size) ?_).trans (h.below.block k L hx)⟩,h.hN,fun n bkn d=> ?_,?_,?_,?_,h.gl.keep E⟩,E,hm⟩
 ·intro e;rcases CS k e with f | f
  ·omega
  ·exact hx f
 ·by_cases i:n=fr
  ·subst i;rw[upd_same]at d;injection d with d
   subst d;exact⟨v',upd_same _ _ _,P _ E F⟩
  ·rw[bM _ _ _ _ i]at d⊢;have t:n≠l:=by rintro rfl;rw[upd_same]at d;cases d
   rw[bM _ _ _ _ t]at d;obtain⟨u,Y,Wh⟩:=h.dn n bkn d;refine⟨u,Y,Wh.keep E hm fun J b R=>q b (Wh.lt J R).1 fun e=> ?_⟩;exact t (h.sep n l u v b (by rw[d];exact J) H Y y R e)
 ·have M:∀n u c,n≠fr->hot (upd (upd blk l none) fr (some bk') n)=true->upd g fr (some v') n=some u->eP u=some c->eP v'=some c->False:=by
   intro n u c d f j G h4;obtain⟨t,f⟩:=p n d f;rw[bM _ _ _ _ d]at j;rcases O c h4 with Z | Z
   ·exact t (h.sep n l u v c f H j y G Z)
   ·have:=h.mlt (.inr ⟨n,u,f,j,G⟩);omega
  intro a b va vb c I s m o z B;by_cases r:a=fr
  ·by_cases x:b=fr
   ·rw[r,x]
   ·subst r;rw[upd_same]at m;injection m with m
    subst m;exact(M b vb c x s o B z).elim
  ·by_cases x:b=fr
   ·subst x;rw[upd_same]at o;injection o with o
    subst o;exact(M a va c r I m z B).elim
   ·have I:=(p a r I).2;have s:=(p b x s).2;rw[bM _ _ _ _ r]at m;rw[bM _ _ _ _ x]at o;exact h.sep a b va vb c I s m o z B
 ·intro n u d;by_cases i:n=fr
  ·exact .inr i
  ·rw[bM _ _ _ _ i]at d;exact .inl (h.al n u d)
 ·intro n u d;by_cases i:n=fr
  ·subst i;rw[upd_same]at d;injection d with d
   subst d;exact(P _ E F).isRef
  ·rw[bM _ _ _ _ i]at d;exact h.refs n u d
end
end Go.Vc
namespace Go.Vc
open Go.RowKit
structure Ty where
 kind:Nat
 agg:Bool
 size:Nat
 bytes:Nat
 zero:List Value
 aiA:List (Nat×Nat×Bool)
 elem:Option TypeId
 eqs:List Nat
 lit:Bool
 arr:Option (TypeId×Nat)
 zag:Bool
 mp:Option (TypeId×TypeId)
def Gs (P:Program)(t:TypeId):Bool:=
 match P.underlying t with
 | some (.struct _)=>true
 | some (.array _ _)=>true
 | _=>false
def rD:IntKind->Nat
 | .i8=>20
 | .i16=>21
 | .i32=>22
 | .i64=>23
 | .u8=>24
 | .u16=>25
 | .u32=>26
 | .u64=>27
def al0:Nat->Option IntKind
 | 20=>some .i8
 | 21=>some .i16
 | 22=>some .i32
 | 23=>some .i64
 | 24=>some .u8
 | 25=>some .u16
 | 26=>some .u32
 | 27=>some .u64
 | _=>none
@[simp] theorem aJP (k:IntKind):(rD k=1)=False:=by cases k<;>simp[rD]
@[simp] theorem aJ6 (k:IntKind):(rD k=3)=False:=by cases k<;>simp[rD]
@[simp] theorem aJ4 (k:IntKind):(rD k=4)=False:=by cases k<;>simp[rD]
@[simp] theorem aJY (k:IntKind):(rD k=5)=False:=by cases k<;>simp[rD]
def kindOf:TypeDesc->Nat
 | .bool=>1
 | .int k=>rD k
 | .string=>3
 | .slice _=>4
 | .struct _=>5
 | .pointer _=>6
 | .func _ _ _=>7
 | _=>0
def cellsIn (P:Program)(t:TypeId):Nat:=if (P.underlying t).isSome then P.cellsOf t else 0
def Lt (P:Program):TypeDesc->List (Nat×Nat×Bool)
 | .struct a=>a.toList.map fun f=>(f.offset,cellsIn P f.type,Gs P f.type)
 | _=>[]
def afq:TypeDesc->Option TypeId
 | .slice e=>some e
 | _=>none
def Tf (P:Program)(t:TypeId):Option Nat:=
 match P.underlying t with
 | some .bool=>some 1
 | some (.int _)=>some 2
 | some .string=>some 3
 | _=>none
def eqFields (P:Program):Nat->List Field->Option (List Nat)
 | _,[]=>some []
 | i,f::r=>
  match Tf P f.type,eqFields P (i+1) r with
  | some k,some ks=>if Nat.beq f.offset i && !(f.name== "_") && Nat.beq (cellsIn P f.type) 1 then some (k::ks)else none
  | _,_=>none
def acW (P:Program)(t:TypeId):TypeDesc->List Nat
 | .struct a=>if P.stoodInHeld t || P.eqGuardType P.depth t then[]else(match eqFields P 0 a.toList with
  | some ks=>ks
  | none=>[])
 | .array n e=>if P.eqGuardType P.depth t then[]else(match Tf P e,P.info? e with
  | some k,some i=>if Nat.beq i.size 1 then List.replicate n k else[]
  | _,_=>[])
 | _=>[]
def auD:TypeDesc->Option (TypeId×Nat)
 | .array n e=>some (e,n)
 | _=>none
def yV:Value->Bool
 | .agg _=>true
 | _=>false
def ai3:TypeDesc->Option (TypeId×TypeId)
 | .map k v=>some (k,v)
 | .pointer e=>some (e,e)
 | _=>none
def anx (P:Program)(t:TypeId):Option Ty:=
 match P.info? t,P.underlying t with
 | some i,some d=>
  match i.zero with
  | some z=>some ⟨kindOf d,Gs P t,i.size,i.bytes,z.cells.toList,Lt P d,afq d,acW P t d,false,auD d,yV z,ai3 d⟩
  | none=>none
 | _,_=>none
def fB (P:Program)(t:TypeId)(a:Ty):Prop:=anx P t=some {a with lit:=false}
def Jv:IntKind->Int->Prop
 | .i8,n=> -128<=n/\n<=127
 | .i16,n=> -32768<=n/\n<=32767
 | .i32,n=> -2147483648<=n/\n<=2147483647
 | .i64,n=> -9223372036854775808<=n/\n<=9223372036854775807
 | .u8,n=>0<=n/\n<=255
 | .u16,n=>0<=n/\n<=65535
 | .u32,n=>0<=n/\n<=4294967295
 | .u64,n=>0<=n/\n<=18446744073709551615
theorem wrap_in {k:IntKind}{n:Int}(h:Jv k n):k.wrap n=n:=by
 cases k<;>simp only[Jv]at h<;>simp[IntKind.wrap,IntKind.bits,IntKind.signed]<;>omega
def dA (k:IntKind)(n:Int):Int:=k.wrap n
theorem eQ {k:IntKind}{n:Int}(h:Jv k n):dA k n=n:=wrap_in h
def uQ (k:IntKind)(x y:Int):Int:=k.wrap (BitVec.ofInt k.bits x &&& BitVec.ofInt k.bits y).toNat
def orI (k:IntKind)(x y:Int):Int:=k.wrap (BitVec.ofInt k.bits x ||| BitVec.ofInt k.bits y).toNat
def afs (k:IntKind)(x y:Int):Int:=k.wrap (BitVec.ofInt k.bits x ^^^ BitVec.ofInt k.bits y).toNat
def aIb (k:IntKind)(x y:Int):Int:=k.wrap (BitVec.ofInt k.bits x &&& ~~~BitVec.ofInt k.bits y).toNat
def W_ (k:IntKind)(x y:Int):Int:=k.wrap (x*2 ^ (min y.toNat k.bits))
def Bc (k:IntKind)(x y:Int):Int:=x.fdiv (2 ^ (min y.toNat k.bits))
def kEq:IntKind->IntKind->Bool:=fun a b=>a==b
def Pv.beq:Pv->Pv->Bool
 | .bool a, .bool b=>a==b
 | .int k a, .int c b=>kEq k c && a==b
 | .str a, .str b=>a==b
 | _,_=>false
def Pv.kind:Pv->Nat
 | .bool _=>1
 | .int k _=>rD k
 | .str _=>3
def Pv.lf {D:Type}:Pv->Lf D
 | .bool b=> .bool b
 | .int k n=> .int k n
 | .str s=> .str s
def x9 {V:Type}(k:Pv):List (Pv×V)->Option V
 | []=>none
 | p::r=>if Pv.beq k p.1 then some p.2 else x9 k r
def Ju {V:Type}(k:Pv)(v:V):List (Pv×V)->List (Pv×V)
 | []=>[(k,v)]
 | p::r=>if Pv.beq k p.1 then(p.1,v)::r else p::Ju k v r
structure azC {D:Type}(S:Sh D)(m:Mp D):Prop where
 keys:∀p∈m.kvs,p.1.kind=m.kind
 has:∀k:Pv,k.kind=m.kind->m.has k=(x9 k m.kvs).isSome
 get:∀k:Pv,k.kind=m.kind->m.get k=((x9 k m.kvs).getD m.zero).map Pv.lf
 put:∀k vs,k.kind=m.kind->vs.map Pv.kind=m.zero.map Pv.kind->∃m',S.mp (m.put k vs)=some m'/\m'.kvs=Ju k vs m.kvs/\m'.agg=m.agg
 len:m.len=m.kvs.length
def o_:Option Prop->Prop
 | none=>True
 | some p=>p
structure DP where
 p:Prop
 b:Bool
 h:b=true->p
@[reducible] def dp (p:Prop) [d:Decidable p]:DP:=⟨p,decide p,Fa⟩
@[reducible] def dq (p:Prop):DP:=⟨p,false,fun e=>nomatch e⟩
def lY:Option DP->Prop
 | none=>True
 | some q=>q.p
theorem Dw {o:Option Prop}:lY (o.map dq) ↔ o_ o:=by cases o<;>exact Iff.rfl
structure Out (D:Type) where
 pre:Option DP
 val:Sl D
 blks:List (Nat×Option (Bk D))
abbrev Ct (D:Type):=List (Sl D)->List (Bk D)->Option (Option DP×Sl D×List (Nat×Bk D)×List Nat)
def xx {D:Type}:Value->Lf D
 | .int k n=> .int k n
 | .string s=>if Nat.ble s.data.size 9223372036854775807 then .str s.data.toList else .val (.string s)
 | .nilIface=> .O_ none
 | v=> .val v
def aAe {D:Type}:Value->Sl D
 | .agg cs=> .one (.agg (cs.toList.map xx))
 | v=> .one (.lf (xx v))
def bOf {D:Type}:Sl D->Option Bool
 | .one (.lf (.bool b))=>some b
 | .one (.lf (.val (.bool b)))=>some b
 | _=>none
def Lf.norm {D:Type}:Lf D->Lf D
 | .val (.bool b)=> .bool b
 | x=>x
def Sv.norm {D:Type}:Sv D->Sv D
 | .lf x=> .lf x.norm
 | .agg a=> .agg (a.map Lf.norm)
def Sl.norm {D:Type}:Sl D->Sl D
 | .one x=> .one x.norm
 | .sO a=> .sO (a.map Sv.norm)
def aB {D:Type}(a:Nat->Sl D):Operand->Sl D
 | .tmp t=>a t
 | .const v=>aAe v
 | .func f=> .one (.lf (.fn f []))
 | .global i=> .one (.lf (.glb i))
def Sv.cells {D:Type}:Sv D->List (Lf D)
 | .lf x=>[x]
 | .agg a=>a
def putAt {D:Type}(cs:List (Lf D))(o:Nat)(a:List (Lf D)):List (Lf D):=cs.take o++(a++cs.drop (o+a.length))
def Lf.storable {D:Type}:Lf D->Bool
 | .any=>false
 | .val (.agg _)=>false
 | .val (.tuple _)=>false
 | _=>true
def Sv.whole {D:Type}:Sv D->Bool
 | .lf x=>x.storable
 | .agg _=>true
def vJ {c:Type}:Option c->Option c->Option c
 | some a,_=>some a
 | none,b=>b
section
variable {D:Type}
def lD (a:Option DP)(x:Lf D):Option (Out D):=some ⟨a, .one (.lf x),[]⟩
def aHw (c:BinOp)(k:IntKind)(a b:Int):Option (Out D):=
 match c with
 | .add=>lD none (.int k (dA k (a+b)))
 | .sub=>lD none (.int k (dA k (a - b)))
 | .mul=>lD none (.int k (dA k (a*b)))
 | .and=>lD none (.int k (uQ k a b))
 | .or=>lD none (.int k (orI k a b))
 | .xor=>lD none (.int k (afs k a b))
 | .andNot=>lD none (.int k (aIb k a b))
 | .quo=>lD (some (dp (b≠0))) (.int k (dA k (a.tdiv b)))
 | .rem=>lD (some (dp (b≠0))) (.int k (a.tmod b))
 | .eql=>lD none (.bool (a==b))
 | .neq=>lD none (.bool (a !=b))
 | .lss=>lD none (.bool (decide (a < b)))
 | .leq=>lD none (.bool (decide (a<=b)))
 | .gtr=>lD none (.bool (decide (b < a)))
 | .geq=>lD none (.bool (decide (b<=a)))
 | _=>none
def aJS (k:IntKind)(a b:Int):Option (Out D):=lD (some (dp (0<=b))) (.int k (W_ k a b))
def aJ9 (k:IntKind)(a b:Int):Option (Out D):=lD (some (dp (0<=b))) (.int k (Bc k a b))
def aH8 (c:BinOp)(a b:List UInt8):Option (Out D):=
 match c with
 | .eql=>lD none (.bool (a==b))
 | .neq=>lD none (.bool (a !=b))
 | .lss=>lD none (.bool (Op.bytesLess a b))
 | .leq=>lD none (.bool (Op.bytesLess a b || a==b))
 | .gtr=>lD none (.bool (!(Op.bytesLess a b || a==b)))
 | .geq=>lD none (.bool (!Op.bytesLess a b))
 | .add=>lD (some (dp (a.length+b.length<=9223372036854775807))) (.str (a++b))
 | _=>none
def eq1 (k:Nat)(x y:Lf D):Option Bool:=
 match k with
 | 1=>(match x,y with
  | .bool a, .bool b=>some (a==b)
  | _,_=>none)
 | 2=>(match x,y with
  | .int k a, .int c b=>if kEq k c then some (a==b)else none
  | _,_=>none)
 | 3=>(match x,y with
  | .str a, .str b=>some (a==b)
  | _,_=>none)
 | _=>none
def uH:List Nat->List (Lf D)->List (Lf D)->Option Bool
 | [],[],[]=>some true
 | k::ks,x::a,y::b=>
  (match eq1 k x y,uH ks a b with
  | some e,some r=>some (e && r)
  | _,_=>none)
 | _,_,_=>none
def Xw (T:TypeId->Option Ty)(S:Sh D)(a:BinOp)(t:TypeId)(x y:Sl D):Option (Out D):=
 match T t with
 | none=>none
 | some c=>(match c.elem,x,y with
  | some _, .one (.lf (.dat d)), .one (.lf (.val (.slice none 0 0)))=>if Nat.blt 0 (S.size d)then(match a with
   | .eql=>lD none (.unk fun b=>b=true->S.len d=0)
   | .neq=>lD none (.unk fun b=>b=false->S.len d=0)
   | _=>none)else none
  | some _, .one (.lf (.val (.slice none 0 0))), .one (.lf (.val (.slice none 0 0)))=>(match a with
   | .eql=>lD none (.val (.bool true))
   | .neq=>lD none (.val (.bool false))
   | _=>none)
  | _,_,_=>none)
def asb (T:TypeId->Option Ty)(op:BinOp)(t:TypeId)(x y:Sl D):Option (Out D):=
 match x,y with
 | .one (.lf (.int k a)), .one (.lf (.int d b))=>(match op with
  | .shl=>aJS k a b
  | .shr=>aJ9 k a b
  | op=>if kEq k d then aHw op k a b else none)
 | .one (.lf (.str a)), .one (.lf (.str b))=>aH8 op a b
 | .one (.agg e), .one (.agg f)=>
  (match T t with
  | some c=>(match c.eqs with
   | []=>none
   | ks=>(match uH ks (e.map Lf.norm) (f.map Lf.norm),op with
    | some r, .eql=>lD none (.bool r)
    | some r, .neq=>lD none (.bool (!r))
    | _,_=>none))
  | none=>none)
 | x,y=>
  match bOf x,bOf y with
  | some a,some b=>
   (match T t with
   | some c=>if c.kind==1 then(match op with
    | .eql=>lD none (.bool (a==b))
    | .neq=>lD none (.bool (a !=b))
    | _=>none)else none
   | none=>none)
  | _,_=>none
def xUn (a:UnOp)(x:Sl D):Option (Out D):=
 match a,x with
 | .not, .one (.lf (.bool b))=>lD none (.bool (!b))
 | .not, .one (.lf (.val (.bool b)))=>lD none (.val (.bool (!b)))
 | .not, .one (.lf (.unk p))=>lD none (.unk fun b=>p (!b))
 | .neg, .one (.lf (.int k n))=>lD none (.int k (dA k (-n)))
 | .xor, .one (.lf (.int k n))=>lD none (.int k (afs k (if k.signed then -1 else k.max) n))
 | _,_=>none
def BO (S:Sh D)(d:D)(i:Nat):Nat->Nat->List (Lf D)
 | _,0=>[]
 | j,n+1=>S.cell d i j::BO S d i (j+1) n
def xO (T:TypeId->Option Ty)(S:Sh D)(b:Nat->Option (Bk D))(t:TypeId)(x:Sl D):Option (Out D):=
 match T t with
 | none=>none
 | some a=>
  match x with
  | .one (.lf (.ptr l o))=>
   match b l with
   | some (.cells cs)=>
    if a.agg then(if Nat.ble (o+a.size) cs.length then some ⟨none, .one (.agg ((cs.drop o).take a.size)),[]⟩else none)
    else(match cs[o]? with
     | some y=>lD none y
     | none=>none)
   | _=>none
  | .one (.lf (.elt d i j))=>
   if a.agg then(if Nat.ble (j+a.size) (S.size d)then some ⟨none, .one (.agg (BO S d i j a.size)),[]⟩else none)
   else(if Nat.blt j (S.size d)then lD none (S.cell d i j)else none)
  | .one (.lf (.opt l i j c))=>
   match b l with
   | some (.row e d)=>
    if a.agg then(if Nat.ble (j+a.size) (S.size d) && Nat.beq c (S.size d)then some ⟨some (dp (i < S.len d)), .one (.agg (BO S d i j a.size)),[]⟩else none)
    else(if Nat.blt j (S.size d) && Nat.beq c (S.size d)then lD (some (dp (i < S.len d))) (S.cell d i j)else none)
   | _=>none
  | _=>none
def BJ (T:TypeId->Option Ty)(S:Sh D)(a:Nat->Option (Bk D))(t:TypeId)(x y:Sl D):Option (Out D):=
 match T t,x,y with
 | some b, .one (.lf (.ptr l o)), .one u=>
  match a l with
  | some (.cells cs)=>
   if Nat.beq u.cells.length b.size && Nat.ble (o+u.cells.length) cs.length && u.cells.all Lf.storable then some ⟨none, .one (.lf .any),[(l,some (.cells (putAt cs o u.cells)))]⟩else none
  | _=>none
 | some b, .one (.lf (.opt l i j f)), .one u=>
  match a l with
  | some (.row e d)=>
   if Nat.beq u.cells.length b.size && Nat.ble (j+u.cells.length) (S.size d) && Nat.beq f (S.size d) && u.cells.all Lf.storable then(match S.set d i j (u.cells.map Lf.norm)with
    | some c=>some ⟨some (dp (i < S.len d)), .one (.lf .any),[(l,some (.row e c))]⟩
    | none=>none)else none
  | _=>none
 | _,_,_=>none
def wQ (T:TypeId->Option Ty)(t:TypeId)(x:Sl D)(f:Nat):Option (Out D):=
 match T t with
 | none=>none
 | some c=>
  match c.aiA[f]?,x with
  | some (a,b,_), .one (.lf (.ptr l o))=>if Nat.beq b 0 then none else lD none (.ptr l (o+a))
  | some (a,b,_), .one (.lf (.elt d i j))=>if Nat.beq b 0 then none else lD none (.elt d i (j+a))
  | some (a,b,_), .one (.lf (.opt l i j z))=>if Nat.beq b 0 then none else lD none (.opt l i (j+a) z)
  | _,_=>none
def aja (T:TypeId->Option Ty)(t:TypeId)(x:Sl D)(f:Nat):Option (Out D):=
 match T t with
 | none=>none
 | some d=>
  match d.aiA[f]?,x with
  | some (a,b,c), .one (.agg cs)=>
   if Nat.beq b 0 then none else if c then(if Nat.ble (a+b) cs.length then some ⟨none, .one (.agg ((cs.drop a).take b)),[]⟩else none)
   else(match cs[a]? with
    | some y=>lD none y
    | none=>none)
  | _,_=>none
def D8 (T:TypeId->Option Ty)(S:Sh D)(b:Nat->Option (Bk D))(t:TypeId)(x i:Sl D):Option (Out D):=
 match T t with
 | none=>none
 | some c=>
  match c.elem with
  | none=>none
  | some e=>
   match T e with
   | none=>none
   | some a=>
    match x,i with
    | .one (.lf (.dat d)), .one (.lf (.int _ n))=>if Nat.beq a.size (S.size d) && Nat.blt 0 a.size then lD (some (dp (0<=n/\n < S.len d))) (.elt d n.toNat 0)else none
    | .one (.lf (.own l)), .one (.lf (.int _ n))=>
     match b l with
     | some (.row _ d)=>if Nat.beq a.size (S.size d) && Nat.blt 0 a.size then lD (some (dp (0<=n/\n < S.len d))) (.opt l n.toNat 0 a.size)else none
     | some (.uZ d)=>if Nat.beq a.size (S.size d) && Nat.blt 0 a.size then lD (some (dp (0<=n/\n < S.len d))) (.elt d n.toNat 0)else none
     | _=>none
    | _,_=>none
def zU (x:Sl D)(i:Nat):Option (Out D):=
 match x with
 | .sO a=>(match a[i]? with
  | some y=>some ⟨none, .one y,[]⟩
  | none=>none)
 | _=>none
def GG (d:Ty)(a:Nat->Sl D):List (Nat×Operand)->List (Lf D)->Option (List (Lf D))
 | [],cs=>some cs
 | (f,x)::r,cs=>
  match d.aiA[f]?,aB a x with
  | some (b,c,_), .one u=>if u.whole && Nat.beq u.cells.length c && Nat.ble (b+c) cs.length then GG d a r (putAt cs b u.cells)else none
  | _,_=>none
def aba (T:TypeId->Option Ty)(b:Nat->Sl D)(t:TypeId)(parts:Array (Nat×Operand)):Option (Out D):=
 match T t with
 | some a=>
  if a.kind==5 && a.aiA.all (fun f=> !Nat.beq f.2.1 0)then(match GG a b parts.toList (a.zero.map xx)with
   | some cs=>some ⟨none, .one (.agg cs),[]⟩
   | none=>none)else none
 | none=>none
def yw (b:Nat)(a:Nat->Sl D):List (Nat×Operand)->List (Lf D)->Option (List (Lf D))
 | [],cs=>some cs
 | (i,x)::r,cs=>
  match aB a x with
  | .one u=>if u.whole && Nat.beq u.cells.length b && Nat.ble (i*b+b) cs.length then yw b a r (putAt cs (i*b) u.cells)else none
  | _=>none
def avZ (T:TypeId->Option Ty)(S:Sh D)(c:Nat->Sl D)(f:Nat)(t:TypeId)(b:Nat)(parts:Array (Nat×Operand)):Option (Out D):=
 match T t with
 | none=>none
 | some g=>
  match g.elem with
  | none=>none
  | some e=>
   match T e with
   | none=>none
   | some a=>
    if Nat.ble (b*a.size) 16777216 && Nat.blt 0 a.size && Nat.beq a.zero.length a.size then(match yw a.size c parts.toList ((List.range (b*a.size)).map fun k=>xx ((a.zero[k % a.size]?).getD (.bool false)))with
     | some cs=>(match S.make e b (cs.map Lf.norm)with
      | some d=>if g.lit || Nat.beq b 0 then some ⟨none, .one (.lf (.own f)),[(f,some (.row e d))]⟩else lD none (.dat d)
      | none=>none)
     | none=>none)else none
def Yc (d:Nat->Sl D)(c a b:Operand):Option (Out D):=
 match aB d c with
 | .one (.lf (.val (.bool true)))=>some ⟨none,aB d a,[]⟩
 | .one (.lf (.val (.bool false)))=>some ⟨none,aB d b,[]⟩
 | .one (.lf (.bool t))=>
  match bOf (aB d a),bOf (aB d b)with
  | some x,some y=>lD none (.bool (bif t then x else y))
  | _,_=>none
 | _=>none
def acw (S:Sh D)(T:TypeId->Option Ty)(b:Nat->Option (Bk D))(c:Array TypeId)(x:Sl D):Option (Out D):=
 match c[0]? with
 | none=>none
 | some t=>
  match T t with
  | none=>none
  | some a=>
   match x with
   | .one (.lf (.dat d))=>if a.kind==4 && Nat.blt 0 (S.size d)then lD none (.int .i64 (S.len d))else none
   | .one (.lf (.str s))=>if a.kind==3 then lD none (.int .i64 s.length)else none
   | .one (.lf (.own l))=>(match b l with
    | some (.row _ d)=>if a.kind==4 then lD none (.int .i64 (S.len d))else none
    | some (.uZ d)=>if a.kind==4 && Nat.blt 0 (S.size d)then lD none (.int .i64 (S.len d))else none
    | _=>none)
   | .one (.lf (.val (.slice none 0 0)))=>if a.kind==4 then lD none (.int .i64 0)else none
   | _=>none
def av4 (b:Builtin)(x y:Sl D):Option (Out D):=
 match b,x,y with
 | .min, .one (.lf (.int k a)), .one (.lf (.int _ c))=>lD none (.int k (min a c))
 | .max, .one (.lf (.int k a)), .one (.lf (.int _ c))=>lD none (.int k (max a c))
 | _,_,_=>none
def Lf.refs:Lf D->List Nat
 | .ptr l _=>[l]
 | .own l=>[l]
 | .opt l _ _ _=>[l]
 | .part l _ _ _ _=>[l]
 | .fn _ a=>a
 | _=>[]
def Sv.refs:Sv D->List Nat
 | .lf x=>x.refs
 | .agg a=>a.flatMap Lf.refs
def Sl.refs:Sl D->List Nat
 | .one x=>x.refs
 | .sO a=>a.flatMap Sv.refs
def Bk.refs:Bk D->List Nat
 | .cells cs=>cs.flatMap Lf.refs
 | .tc _ cs=>cs.flatMap Lf.refs
 | _=>[]
def Lf.ren (f:Nat->Nat):Lf D->Lf D
 | .ptr l o=> .ptr (f l) o
 | .own l=> .own (f l)
 | .opt l i j b=> .opt (f l) i j b
 | .part l i j b h=> .part (f l) i j b h
 | .fn h a=> .fn h (a.map f)
 | x=>x
def Sv.ren (f:Nat->Nat):Sv D->Sv D
 | .lf x=> .lf (x.ren f)
 | .agg a=> .agg (a.map (Lf.ren f))
def Sl.ren (f:Nat->Nat):Sl D->Sl D
 | .one x=> .one (x.ren f)
 | .sO a=> .sO (a.map (Sv.ren f))
def Bk.ren (f:Nat->Nat):Bk D->Bk D
 | .cells cs=> .cells (cs.map (Lf.ren f))
 | .tc t cs=> .tc t (cs.map (Lf.ren f))
 | x=>x
def Lf.mX:Lf D->Bool
 | .dat _=>true
 | .elt _ _ _=>true
 | .xt _=>true
 | _=>false
def Sv.mX:Sv D->Bool
 | .lf x=>x.mX
 | .agg a=>a.any Lf.mX
def Sl.mX:Sl D->Bool
 | .one x=>x.mX
 | .sO a=>a.any Sv.mX
def Bk.mX:Bk D->Bool
 | .cells cs=>cs.any Lf.mX
 | .iter _ _=>false
 | .map _=>false
 | .tc _ cs=>cs.any Lf.mX
 | _=>true
def qK (l:Nat):List Nat->Bool
 | []=>false
 | x::r=>Nat.beq x l || qK l r
def lN:List Nat->List Nat->List Nat
 | ids,[]=>ids
 | ids,l::r=>lN (if qK l ids then ids else ids++[l]) r
def reach (a:Nat->Option (Bk D)):Nat->List Nat->List Nat
 | 0,ids=>ids
 | n+1,ids=>reach a n (lN ids (ids.flatMap fun l=>match a l with
  | some b=>b.refs
  | none=>[]))
def allIn (ids:List Nat):List Nat->Bool
 | []=>true
 | l::r=>qK l ids && allIn ids r
def tX (a:Nat->Option (Bk D)):List Nat->Option (List (Bk D))
 | []=>some []
 | l::r=>(match a l,tX a r with
  | some b,some c=>some (b::c)
  | _,_=>none)
def iQ:List Nat->Nat->Nat
 | [],_=>0
 | x::r,l=>if Nat.beq x l then 0 else iQ r l+1
def backTo (ids:List Nat)(a i:Nat):Nat:=if Nat.blt i ids.length then ids.getD i 0 else a+(i - ids.length)
def Lf.view (a:Nat->Option (Bk D)):Lf D->Lf D
 | .own l=>(match a l with
  | some (.row _ d)=> .dat d
  | some (.map d)=> .dat d
  | some (.uZ d)=> .dat d
  | _=> .own l)
 | .part l i j c f=>(match a l with
  | some (.row _ d)=>(match f d with
   | some b=> .dat b
   | none=> .any)
  | some (.uZ d)=>(match f d with
   | some b=> .dat b
   | none=> .any)
  | _=> .part l i j c f)
 | x=>x
def Sv.view (a:Nat->Option (Bk D)):Sv D->Sv D
 | .lf x=> .lf (x.view a)
 | .agg b=> .agg (b.map (Lf.view a))
def Sl.view (a:Nat->Option (Bk D)):Sl D->Sl D
 | .one x=> .one (x.view a)
 | .sO b=> .sO (b.map (Sv.view a))
def Lf.owns:Lf D->List Nat
 | .own l=>[l]
 | .part l _ _ _ _=>[l]
 | _=>[]
def Sv.owns:Sv D->List Nat
 | .lf x=>x.owns
 | .agg a=>a.flatMap Lf.owns
def Sl.owns:Sl D->List Nat
 | .one x=>x.owns
 | .sO a=>a.flatMap Sv.owns
def PT (k:Nat):List (Nat×Bk D)->Bool
 | []=>true
 | (i,_)::r=>Nat.blt i (k+64) && PT k r
def nodupB:List (Nat×Bk D)->Bool
 | []=>true
 | (i,_)::r=> !(r.any fun p=>Nat.beq p.1 i) && nodupB r
def jM:List (Nat×Bk D)->Nat->Option (Bk D)
 | [],_=>none
 | (k,v)::r,n=>if Nat.beq k n then some v else jM r n
def rwD:Option (Bk D)->Option D
 | some (.row _ d)=>some d
 | some (.map d)=>some d
 | _=>none
def ja (a:Nat->Option (Bk D))(l:Nat):Option (Nat×Option (Bk D)):=
 match rwD (a l)with
 | some d=>some (l,some (.uZ d))
 | none=>none
def aqI (a:List (Bk D))(i:Nat):List Nat:=
 match a[i]? with
 | some b=>b.refs
 | none=>[]
def atF (a:List (Bk D))(i:Nat):Bool:=
 match a[i]? with
 | some b=>b.mX
 | none=>false
def rC (b:List (Nat×Bk D))(a:List Nat)(c:List (Bk D))(i:Nat):Option (Bk D):=
 match jM b i with
 | some d=>some d
 | none=>if qK i a then c[i]? else none
def BM (g:Ct D)(c:Nat->Option (Bk D))(e:Nat)(args:List (Sl D))(f:List Nat):Option (Out D):=
 let ids:=reach c 3 (lN [] (args.flatMap Sl.refs))
 match tX c ids with
 | none=>none
 | some d=>
  if allIn ids (args.flatMap Sl.refs) && allIn ids (d.flatMap Bk.refs) && !(f.any fun l=>qK l ids)then
   (match g (args.map (Sl.ren (iQ ids))) (d.map (Bk.ren (iQ ids)))with
   | some (p,r,a,b)=>
    if PT ids.length a && nodupB a && allIn (a.map (·.1)++b) (a.flatMap fun q=>q.2.refs) && allIn (a.map (·.1)++b) r.refs &&
      allIn (a.map (·.1)++b) (b.flatMap fun i=>aqI (d.map (Bk.ren (iQ ids))) i) && b.all (fun i=>Nat.blt i ids.length && !qK i (a.map (·.1)))then
     some ⟨p,r.ren (backTo ids e),((ids.filter fun l=> !qK (iQ ids l) b).map fun l=>(l,(jM a (iQ ids l)).map (Bk.ren (backTo ids e))))++(a.filter fun q=> !Nat.blt q.1 ids.length).map (fun q=>(backTo ids e q.1,some (q.2.ren (backTo ids e))))++
      (if r.mX || a.any (fun q=>q.2.mX) || b.any (fun i=>atF (d.map (Bk.ren (iQ ids))) i)then f.filterMap (ja c)else[])⟩
    else none
   | none=>none)
  else none
def Eh (e:FuncId->Option (Ct D))(f:FuncId)(a:Nat->Option (Bk D))(args:List (Sl D))(c:Nat):Option (Out D):=
 match e f with
 | none=>none
 | some d=>
  let b:=args.map Sl.norm
  vJ (BM d a c (b.map (Sl.view a)) (lN [] (b.flatMap Sl.owns))) (BM d a c b [])
def DK (a:Nat->Sl D):List Operand->Option (List Nat)
 | []=>some []
 | x::r=>(match aB a x,DK a r with
  | .one (.lf (.ptr l 0)),some b=>some (l::b)
  | _,_=>none)
def Ji (a:Nat->Option (Bk D)):Sl D->Option D
 | .one (.lf (.dat d))=>some d
 | .one (.lf (.own l))=>(match a l with
  | some (.row _ d)=>some d
  | some (.uZ d)=>some d
  | _=>none)
 | _=>none
def dE (n bytes:Nat):Prop:=n<=1099511627776/\n*bytes<=140737488355328
instance {n b:Nat}:Decidable (dE n b):=inferInstanceAs (Decidable (_/\_))
def Ey (T:TypeId->Option Ty)(S:Sh D)(c:Nat->Option (Bk D))(b:Nat)(g:Array TypeId)(x y:Sl D):Option (Out D):=
 match g.toList with
 | [t,f]=>if Nat.beq t f then(match T t with
  | none=>none
  | some i=>(match i.elem with
   | none=>none
   | some e=>(match T e with
    | none=>none
    | some a=>(match Ji c y with
     | none=>none
     | some d2=>
      if Nat.beq a.size (S.size d2) && Nat.blt 0 a.size && Nat.beq a.zero.length a.size then(match x with
       | .one (.lf (.val (.slice none 0 0)))=>some ⟨some (dp (dE (S.len d2) a.bytes)), .one (.lf (.own b)),[(b,some (.row e d2))]⟩
       | .one (.lf (.own l))=>(match c l with
        | some (.row h d1)=>if Nat.beq e h then(match S.cat d1 d2 with
         | some d=>some ⟨some (dp (dE (S.len d1+S.len d2) a.bytes)), .one (.lf (.own b)),[(l,none),(b,some (.row e d))]⟩
         | none=>none)else none
        | _=>none)
       | _=>none)else none))))else none
 | _=>none
def aqn (T:TypeId->Option Ty)(S:Sh D)(b:Nat)(t:TypeId)(x y:Sl D):Option (Out D):=
 match T t with
 | none=>none
 | some c=>(match c.elem with
  | none=>none
  | some e=>(match T e with
   | none=>none
   | some a=>(match x,y with
    | .one (.lf (.int _ n)), .one (.lf (.int _ m))=>if Nat.blt 0 a.size && Nat.beq a.zero.length a.size then(match S.zero e n.toNat (a.zero.map fun v=>(xx v).norm)with
     | some d=>some ⟨some (dp (n=m/\0<=n/\n*a.bytes<=281474976710656/\n<=1099511627776)), .one (.lf (.own b)),[(b,some (.row e d))]⟩
     | none=>none)else none
    | _,_=>none)))
def Si (T:TypeId->Option Ty)(t:TypeId)(x i:Sl D):Option (Out D):=
 match T t with
 | none=>none
 | some a=>(match x,i with
  | .one (.lf (.str s)), .one (.lf (.int _ n))=>if a.kind==3 then lD (some (dp (0<=n/\n < s.length))) (.int .u8 (s.getD n.toNat 0).toNat)else none
  | _,_=>none)
def ael (T:TypeId->Option Ty)(src a:TypeId)(x:Sl D):Option (Out D):=
 match T src,T a,x with
 | some _,some b, .one (.lf (.int _ n))=>(match al0 b.kind with
  | some k=>lD none (.int k (dA k n))
  | none=>none)
 | _,_,_=>none
def bnd (n:Nat):Option (Sl D)->Option Int
 | none=>some n
 | some (.one (.lf (.int _ i)))=>some i
 | some _=>none
def LC (T:TypeId->Option Ty)(S:Sh D)(f:Nat->Option (Bk D))(t:TypeId)(x:Sl D)(g b:Option (Sl D)):Option (Out D):=
 match T t with
 | none=>none
 | some c=>(match bnd 0 g with
  | none=>none
  | some l=>(match x with
   | .one (.lf (.str s))=>if c.kind==3 then(match bnd s.length b with
    | some h=>lD (some (dp (0<=l/\l<=h/\h<=s.length))) (.str ((s.take h.toNat).drop l.toNat))
    | none=>none)else none
   | .one (.lf (.dat d))=>(match c.elem with
    | none=>none
    | some e=>(match T e with
     | none=>none
     | some a=>if Nat.beq a.size (S.size d) && Nat.blt 0 a.size then(match bnd (S.len d) b with
      | some h=>(match S.sub d l.toNat h.toNat with
       | some i=>lD (some (dp (0<=l/\l<=h/\h<=S.len d))) (.dat i)
       | none=>none)
      | none=>none)else none))
   | .one (.lf (.own q))=>(match c.elem with
    | none=>none
    | some e=>(match T e with
     | none=>none
     | some a=>(match f q with
      | some (.row _ d)=>(match bnd (S.len d) b with
       | some h=>lD (some (dp (0<=l/\l<=h/\h<=S.len d))) (.part q l.toNat h.toNat a.size (XY S a.size l.toNat h.toNat))
       | none=>none)
      | _=>none)))
   | _=>none))
def XL (T:TypeId->Option Ty)(S:Sh D)(b:Nat->Option (Bk D))(f:Array TypeId)(x y:Sl D):Option (Out D):=
 match f.toList with
 | [t,c]=>if Nat.beq t c then(match T t with
  | none=>none
  | some h=>(match h.elem with
   | none=>none
   | some e=>(match T e with
    | none=>none
    | some a=>(match x,y with
     | .one (.lf (.own l)), .one (.lf (.dat d2))=>(match b l with
      | some (.row g d1)=>if Nat.beq e g && (Nat.beq a.size (S.size d1) && (Nat.beq a.size (S.size d2) && Nat.blt 0 a.size))then
       (match S.sub d2 0 (min (S.len d2) (S.len d1)),S.sub d1 (min (S.len d2) (S.len d1)) (S.len d1)with
       | some p,some q=>(match S.cat p q with
        | some d=>some ⟨none, .one (.lf (.int .i64 (min (S.len d2) (S.len d1):Nat))),[(l,some (.row e d))]⟩
        | none=>none)
       | _,_=>none)else none
      | _=>none)
     | _,_=>none))))else none
 | _=>none
def isCells:Option (Bk D)->Bool
 | some (.cells _)=>true
 | _=>false
def sK (T:TypeId->Option Ty)(S:Sh D)(w:FuncId->Option (Ct D))(e:Nat->Sl D)(g:Nat->Option (Bk D))(k:Nat)(o:Op):Option (Out D):=
 match o with
 | .move x=>some ⟨none,aB e x,[]⟩
 | .assign x=>some ⟨none,aB e x,[]⟩
 | .pick c a b=>Yc e c a b
 | .alloc t=>(match T t with
  | some s=>some ⟨none, .one (.lf (.ptr k 0)),[(k,some (.cells (s.zero.map xx)))]⟩
  | none=>none)
 | .box _ x=>(match aB e x with
  | .one u=>if u.whole then some ⟨none, .one (.lf (.ptr k 0)),[(k,some (.cells u.cells))]⟩else none
  | _=>none)
 | .build t parts=>aba T e t parts
 | .buildSlice t p parts=>avZ T S e k t p parts
 | .load t x=>xO T S g t (aB e x)
 | .store t x y=>BJ T S g t (aB e x) (aB e y)
 | .nilCheck x=>(match aB e x with
  | .one (.lf (.ptr l o))=>lD none (.ptr l o)
  | .one (.lf (.elt d i j))=>lD none (.elt d i j)
  | .one (.lf (.opt l i j r))=>lD none (.opt l i j r)
  | .one (.lf (.fn f h))=>lD none (.fn f h)
  | _=>none)
 | .binOp m t x y _=>vJ (Xw T S m t (aB e x) (aB e y)) (asb T m t (aB e x) (aB e y))
 | .unOp m _ x=>xUn m (aB e x)
 | .fieldAddr t x f=>wQ T t (aB e x) f
 | .field t x f=>aja T t (aB e x) f
 | .indexAddr t x i=>D8 T S g t (aB e x) (aB e i)
 | .extract x i=>zU (aB e x) i
 | .call c=>(match c.callee with
  | .builtin .len=>(match c.args.toList with
   | [x]=>acw S T g c.argTypes (aB e x)
   | _=>none)
  | .builtin .min=>(match c.args.toList with
   | [x,y]=>av4 .min (aB e x) (aB e y)
   | _=>none)
  | .builtin .max=>(match c.args.toList with
   | [x,y]=>av4 .max (aB e x) (aB e y)
   | _=>none)
  | .builtin .append=>(match c.args.toList with
   | [x,y]=>Ey T S g k c.argTypes (aB e x) (aB e y)
   | _=>none)
  | .builtin .copy=>(match c.args.toList with
   | [x,y]=>XL T S g c.argTypes (aB e x) (aB e y)
   | _=>none)
  | .value f=>(match aB e f with
   | .one (.lf (.fn f h))=>if h.all (fun l=>isCells (g l))then Eh w f g (c.args.toList.map (aB e)++h.map fun l=> .one (.lf (.ptr l 0))) k else none
   | _=>none)
  | _=>none)
 | .makeFunc (.func f) first h=>if first.isEmpty then(match DK e h.toList with
  | some z=>lD none (.fn f z)
  | none=>none)else none
 | .makeSlice t x y=>aqn T S k t (aB e x) (aB e y)
 | .index t x i=>Si T t (aB e x) (aB e i)
 | .convert src n x=>ael T src n (aB e x)
 | .slice t x v q none=>LC T S g t (aB e x) (v.map (aB e)) (q.map (aB e))
 | _=>none
end
end Go.Vc
