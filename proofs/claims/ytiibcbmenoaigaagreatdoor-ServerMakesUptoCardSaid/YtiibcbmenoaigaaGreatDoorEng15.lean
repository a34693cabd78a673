/- Own engine: Vei, Vek, Vel, Ven, Vem. -/
import Derived.Test.YtiibcbmenoaigaaGreatDoorEng11
import Derived.Lib.Bytealg
import Derived.Test.YtiibcbmenoaigaaGreatDoorEng10
import GoSem.ClaimGoes
namespace Go.Vc
open Go.RowKit
set_option linter.unusedVariables false
set_option linter.unusedSimpArgs false
theorem wrp_nat {k:IntKind}(hu:k.signed=false)(n:Nat):wrp k (n:Int)=((n % 2 ^ k.bits:Nat):Int):=by
 cases k<;>simp[IntKind.signed]at hu<;>simp[wrp,IntKind.wrap,IntKind.signed,IntKind.bits]
theorem wrp_of {k:IntKind}(hu:k.signed=false){n:Nat}(h:n < 2 ^ k.bits):wrp k (n:Int)=(n:Int):=by
 rw[wrp_nat hu,Nat.mod_eq_of_lt h]
theorem andI_nat {k:IntKind}(hu:k.signed=false){x y:Nat}(hx:x < 2 ^ k.bits)(hy:y < 2 ^ k.bits):andI k (x:Int) (y:Int)=((x &&& y:Nat):Int):=by
 have:(BitVec.ofInt k.bits (x:Int) &&& BitVec.ofInt k.bits (y:Int)).toNat=x &&& y:=by
  rw[BitVec.toNat_and,BitVec.ofInt_natCast,BitVec.ofInt_natCast,BitVec.toNat_ofNat,BitVec.toNat_ofNat,Nat.mod_eq_of_lt hx,Nat.mod_eq_of_lt hy]
 unfold andI
 rw[this]
 exact wrp_of hu (Nat.and_lt_two_pow x hy)
end Go.Vc
namespace Go.Vc
open Go.RowKit
set_option linter.unusedVariables false
set_option linter.unusedSimpArgs false
end Go.Vc
namespace Go.Vc
open Go.RowKit
set_option linter.unusedVariables false
set_option linter.unusedSimpArgs false
def partsB (c:UInt8):List UInt8->List (List UInt8)
 | []=>[[]]
 | x::s=>if x==c then[]::partsB c s else match partsB c s with
  | []=>[[x]]
  | p::r=>(x::p)::r
theorem partsB_yes {c x:UInt8}{s:List UInt8}(h:(x==c)=true):partsB c (x::s)=[]::partsB c s:=by
 conv=>lhs;unfold partsB
 rw[h]
 rfl
theorem partsB_no {c x:UInt8}{s:List UInt8}(h:(x==c)=false):partsB c (x::s)=match partsB c s with
  | []=>[[x]]
  | p::r=>(x::p)::r:=by
 conv=>lhs;unfold partsB
 rw[h]
 rfl
theorem partsB_ne (c:UInt8)(s:List UInt8):partsB c s≠[]:=by
 cases s with
 | nil=>simp[partsB]
 | cons x s=>
  unfold partsB
  split
  ·simp
  ·split<;>simp
def headB (a:List UInt8):List (List UInt8)->List (List UInt8)
 | []=>[a]
 | p::r=>(a++p)::r
theorem headB_nil {l:List (List UInt8)}(h:l≠[]):headB [] l=l:=by
 cases l with
 | nil=>exact absurd rfl h
 | cons p r=>rfl
theorem headB_cons (c:UInt8)(x:UInt8)(s a:List UInt8)(h:(x==c)=false):headB a (partsB c (x::s))=headB (a++[x]) (partsB c s):=by
 rw[partsB_no h]
 cases partsB c s with
 | nil=>rfl
 | cons p r=>simp[headB]
theorem parts_none {c:UInt8}:∀{s:List UInt8},Lib.indexByte s c= -1->partsB c s=[s]/\Lib.countByte s c=0
 | [],_=>⟨rfl,rfl⟩
 | x::s,h=>by
  have hge:=Lib.indexByte_ge s c
  unfold Lib.indexByte at h
  cases hx:x==c with
  | true=>rw[hx]at h;simp at h
  | false=>
   rw[hx]at h
   simp only[Bool.false_eq_true,if_false]at h
   by_cases hs:Lib.indexByte s c= -1
   ·obtain⟨h1,h2⟩:=parts_none hs
    rw[partsB_no hx,h1]
    refine⟨rfl,?_⟩
    unfold Lib.countByte at h2⊢
    rw[List.count_cons,h2,hx]
    rfl
   ·have:(Lib.indexByte s c== -1)=false:=by simpa using hs
    rw[this]at h
    simp only[Bool.false_eq_true,if_false]at h
    omega
theorem parts_some {c:UInt8}:∀{s:List UInt8} {m:Nat},Lib.indexByte s c=(m:Int)->m < s.length/\partsB c s=s.take m::partsB c (s.drop (m+1))/\Lib.countByte s c=Lib.countByte (s.drop (m+1)) c+1
 | [],m,h=>by unfold Lib.indexByte at h;omega
 | x::s,m,h=>by
  have hge:=Lib.indexByte_ge s c
  unfold Lib.indexByte at h
  cases hx:x==c with
  | true=>
   rw[hx]at h
   simp only[if_true]at h
   obtain rfl:m=0:=by omega
   rw[partsB_yes hx]
   refine⟨by simp,rfl,?_⟩
   unfold Lib.countByte
   rw[List.count_cons,hx]
   rfl
  | false=>
   rw[hx]at h
   simp only[Bool.false_eq_true,if_false]at h
   by_cases hs:Lib.indexByte s c= -1
   ·rw[hs]at h;exact absurd h (by simp)
   ·have:(Lib.indexByte s c== -1)=false:=by simpa using hs
    rw[this]at h
    simp only[Bool.false_eq_true,if_false]at h
    obtain⟨k,rfl⟩:∃k,m=k+1:=⟨m - 1,by omega⟩
    obtain⟨h1,h2,h3⟩:=parts_some (c:=c) (s:=s) (m:=k) (by omega)
    rw[partsB_no hx,h2]
    refine⟨by simp;omega,rfl,?_⟩
    unfold Lib.countByte at h3⊢
    rw[List.count_cons,hx]
    simpa using h3
theorem count_le (c:UInt8)(s:List UInt8):Lib.countByte s c<=s.length:=List.count_le_length
end Go.Vc
namespace Go.Vc
open Go.RowKit
set_option linter.unusedVariables false
section
variable {K V:Type}[DecidableEq K]
def kvHas (l:List (K×V))(k:K):Bool:=l.any fun p=>decide (k=p.1)
def kvGet (z:V):List (K×V)->K->V
 | [],_=>z
 | p::r,k=>if k=p.1 then p.2 else kvGet z r k
def kvPut:List (K×V)->K->V->List (K×V)
 | [],k,v=>[(k,v)]
 | p::r,k,v=>if k=p.1 then(p.1,v)::r else p::kvPut r k v
theorem kvGet_put (z:V)(l:List (K×V))(k:K)(v:V)(k':K):kvGet z (kvPut l k v) k'=if k'=k then v else kvGet z l k':=by
 induction l with
 | nil=>simp[kvPut,kvGet]
 | cons p r ih=>
  unfold kvPut
  split
  ·rename_i h
   subst h
   simp only[kvGet]
   split<;>simp_all
  ·rename_i h
   simp only[kvGet,ih]
   by_cases h1:k'=p.1
   ·simp only[if_pos h1]
    rw[if_neg (fun e:k'=k=>h (e.symm.trans h1))]
   ·simp only[if_neg h1]
end
structure Kv (K V:Type) where
 kind:Nat
 key:K->Pv
 unk:Pv->Option K
 agg:Bool
 enc:V->List Pv
 dec:List Pv->Option V
 z:V
structure KvOk {K V:Type}[DecidableEq K](c:Kv K V):Prop where
 kd:∀k,(c.key k).kind=c.kind
 un:∀p,p.kind=c.kind->∃k,c.unk p=some k/\c.key k=p
 beq:∀k k',Pv.beq (c.key k) (c.key k')=decide (k=k')
 dk:∀vs,vs.map Pv.kind=(c.enc c.z).map Pv.kind->∃v,c.dec vs=some v/\c.enc v=vs
def mpOf {D K V:Type}[DecidableEq K](c:Kv K V)(inj:List (K×V)->D)(l:List (K×V)):Mp D where
 kind:=c.kind
 agg:=c.agg
 zero:=c.enc c.z
 kvs:=l.map fun p=>(c.key p.1,c.enc p.2)
 has:=fun p=>match c.unk p with
  | some k=>kvHas l k
  | none=>false
 get:=fun p=>match c.unk p with
  | some k=>(c.enc (kvGet c.z l k)).map Pv.lf
  | none=>[]
 put:=fun p vs=>match c.unk p,c.dec vs with
  | some k,some v=>inj (kvPut l k v)
  | _,_=>inj l
 len:=l.length
theorem mfind_kv {K V:Type}[DecidableEq K]{c:Kv K V}(hc:KvOk c)(k:K):∀l:List (K×V),mfind (c.key k) (l.map fun p=>(c.key p.1,c.enc p.2))=if kvHas l k then some (c.enc (kvGet c.z l k))else none
 | []=>rfl
 | p::r=>by
  by_cases h:k=p.1
  ·have e:kvHas (p::r) k=true:=by simp[kvHas,h]
   rw[e]
   simp[mfind,hc.beq,kvGet,h]
  ·have e:kvHas (p::r) k=kvHas r k:=by simp[kvHas,h]
   have e2:kvGet c.z (p::r) k=kvGet c.z r k:=by simp[kvGet,h]
   rw[e,e2,<-mfind_kv hc k r]
   simp[mfind,hc.beq,h]
theorem kvGet_none {K V:Type}[DecidableEq K](z:V)(k:K):∀l:List (K×V),kvHas l k=false->kvGet z l k=z
 | [],_=>rfl
 | p::r,h=>by
  simp only[kvHas,List.any_cons,Bool.or_eq_false_iff,decide_eq_false_iff_not]at h
  unfold kvGet
  rw[if_neg h.1]
  exact kvGet_none z k r h.2
theorem mput_kv {K V:Type}[DecidableEq K]{c:Kv K V}(hc:KvOk c)(k:K)(v:V):∀l:List (K×V),mput (c.key k) (c.enc v) (l.map fun p=>(c.key p.1,c.enc p.2))=(kvPut l k v).map fun p=>(c.key p.1,c.enc p.2)
 | []=>rfl
 | p::r=>by
  simp only[List.map_cons,mput,hc.beq,kvPut]
  by_cases h:k=p.1
  ·simp[h]
  ·simp[h,mput_kv hc k v r]
theorem mpOf_ok {D K V:Type}[DecidableEq K]{S:Sh D}{c:Kv K V}{inj:List (K×V)->D}(hc:KvOk c)(hi:∀l,S.mp (inj l)=some (mpOf c inj l))(l:List (K×V)):MpOk S (mpOf c inj l) where
 keys:=fun p hp=>by
  obtain⟨q,_,rfl⟩:=List.mem_map.1 hp
  exact hc.kd _
 has:=fun p hp=>by
  obtain⟨k,h1,rfl⟩:=hc.un p hp
  simp only[mpOf,h1,mfind_kv hc]
  cases kvHas l k<;>rfl
 get:=fun p hp=>by
  obtain⟨k,h1,rfl⟩:=hc.un p hp
  simp only[mpOf,h1,mfind_kv hc]
  cases h:kvHas l k with
  | true=>rfl
  | false=>rw[kvGet_none _ _ _ h];rfl
 put:=fun p vs hp hv=>by
  obtain⟨k,h1,rfl⟩:=hc.un p hp
  obtain⟨v,h2,rfl⟩:=hc.dk vs hv
  refine⟨mpOf c inj (kvPut l k v),?_,?_,rfl⟩
  ·simp only[mpOf,h1,h2]
   exact hi _
  ·simp only[mpOf]
   exact(mput_kv hc k v l).symm
 len:=by simp[mpOf]
def kvSB:Kv (List UInt8) Bool where
 kind:=3
 key:= .str
 unk:=fun p=>match p with
  | .str s=>some s
  | _=>none
 agg:=false
 enc:=fun b=>[.bool b]
 dec:=fun vs=>match vs with
  | [.bool b]=>some b
  | _=>none
 z:=false
theorem kind_ne {k:IntKind}(h:ikNo k=3\/ikNo k=1):False:=by cases k<;>simp[ikNo]at h
theorem kvSB_ok:KvOk kvSB where
 kd:=fun _=>rfl
 un:=fun p hp=>by
  cases p with
  | str s=>exact⟨s,rfl,rfl⟩
  | bool b=>simp[Pv.kind,kvSB]at hp
  | int k n=>exact(kind_ne (.inl hp)).elim
 beq:=fun a b=>by
  show(a==b)=decide (a=b)
  by_cases h:a=b<;>simp[h]
 dk:=fun vs h=>by
  match vs,h with
  | [.bool b],_=>exact⟨b,rfl,rfl⟩
  | [.str s],h=>exact absurd h (by simp[kvSB,Pv.kind])
  | [.int k n],h=>exact absurd h (fun h=>kind_ne (k:=k) (.inr (by injection h)))
  | [],h=>exact absurd h (by simp[kvSB])
  | _::_::_,h=>exact absurd h (by simp[kvSB])
structure PvC (V:Type) where
 kinds:List Nat
 enc:V->List Pv
 dec:List Pv->Option V
class PvCOk {V:Type} (c:PvC V):Prop where
 kd:∀v,(c.enc v).map Pv.kind=c.kinds
 dk:∀vs,vs.map Pv.kind=c.kinds->∃v,c.dec vs=some v/\c.enc v=vs
theorem ikNo_inj {k k':IntKind}(h:ikNo k=ikNo k'):k=k':=by cases k<;>cases k'<;>first | rfl | (simp[ikNo]at h)
def pvB:PvC Bool:=⟨[1],fun b=>[.bool b],fun vs=>match vs with
 | [.bool b]=>some b
 | _=>none⟩
def pvS:PvC (List UInt8):=⟨[3],fun b=>[.str b],fun vs=>match vs with
 | [.str b]=>some b
 | _=>none⟩
def pvI (k:IntKind):PvC Int:=⟨[ikNo k],fun n=>[.int k n],fun vs=>match vs with
 | [.int _ n]=>some n
 | _=>none⟩
def pvP {A B:Type}(c:PvC A)(d:PvC B):PvC (A×B):=⟨c.kinds++d.kinds,fun p=>c.enc p.1++d.enc p.2,fun vs=>match c.dec (vs.take c.kinds.length),d.dec (vs.drop c.kinds.length)with
 | some a,some b=>some (a,b)
 | _,_=>none⟩
def pvIso {A B:Type}(c:PvC A)(f:A->B)(g:B->A):PvC B:=⟨c.kinds,fun b=>c.enc (g b),fun vs=>match c.dec vs with
 | some a=>some (f a)
 | none=>none⟩
instance pvB_ok:PvCOk pvB:=⟨fun _=>rfl,fun vs h=>by
 match vs,h with
 | [.bool b],_=>exact⟨b,rfl,rfl⟩
 | [.str s],h=>exact absurd h (by simp[pvB,Pv.kind])
 | [.int k n],h=>exact absurd h (fun h=>kind_ne (k:=k) (.inr (by injection h)))
 | [],h=>exact absurd h (by simp[pvB])
 | _::_::_,h=>exact absurd h (by simp[pvB])⟩
instance pvS_ok:PvCOk pvS:=⟨fun _=>rfl,fun vs h=>by
 match vs,h with
 | [.str b],_=>exact⟨b,rfl,rfl⟩
 | [.bool s],h=>exact absurd h (by simp[pvS,Pv.kind])
 | [.int k n],h=>exact absurd h (fun h=>kind_ne (k:=k) (.inl (by injection h)))
 | [],h=>exact absurd h (by simp[pvS])
 | _::_::_,h=>exact absurd h (by simp[pvS])⟩
instance pvI_ok (k:IntKind):PvCOk (pvI k):=⟨fun _=>rfl,fun vs h=>by
 match vs,h with
 | [.int k' b],h=>
  have h:ikNo k'=ikNo k:=by injection h
  rw[ikNo_inj h]
  exact⟨b,rfl,rfl⟩
 | [.bool s],h=>exact absurd h.symm (fun h=>kind_ne (k:=k) (.inr (by injection h)))
 | [.str s],h=>exact absurd h.symm (fun h=>kind_ne (k:=k) (.inl (by injection h)))
 | [],h=>exact absurd h (by simp[pvI])
 | _::_::_,h=>exact absurd h (by simp[pvI])⟩
instance pvP_ok {A B:Type} {c:PvC A} {d:PvC B} [hc:PvCOk c] [hd:PvCOk d]:PvCOk (pvP c d):=⟨fun p=>by simp[pvP,hc.kd,hd.kd],fun vs h=>by
 have h:vs.map Pv.kind=c.kinds++d.kinds:=h
 have h1:(vs.take c.kinds.length).map Pv.kind=c.kinds:=by rw[List.map_take,h,List.take_left]
 have h2:(vs.drop c.kinds.length).map Pv.kind=d.kinds:=by rw[List.map_drop,h,List.drop_left]
 obtain⟨a,a1,a2⟩:=hc.dk _ h1
 obtain⟨b,b1,b2⟩:=hd.dk _ h2
 refine⟨(a,b),by simp only[pvP,a1,b1],?_⟩
 show c.enc a++d.enc b=vs
 rw[a2,b2,List.take_append_drop]⟩
theorem pvIso_ok {A B:Type}{c:PvC A}{f:A->B}{g:B->A}(hc:PvCOk c)(hg:∀a,g (f a)=a):PvCOk (pvIso c f g):=⟨fun b=>hc.kd _,fun vs h=>by
 obtain⟨a,a1,a2⟩:=hc.dk vs h
 exact⟨f a,by simp only[pvIso,a1],by simp only[pvIso,hg,a2]⟩⟩
def kvS {V:Type}(agg:Bool)(c:PvC V)(z:V):Kv (List UInt8) V where
 kind:=3
 key:= .str
 unk:=fun p=>match p with
  | .str s=>some s
  | _=>none
 agg:=agg
 enc:=c.enc
 dec:=c.dec
 z:=z
theorem kvS_ok {V:Type}{agg:Bool}{c:PvC V}{z:V}(hc:PvCOk c):KvOk (kvS agg c z) where
 kd:=fun _=>rfl
 un:=kvSB_ok.un
 beq:=kvSB_ok.beq
 dk:=fun vs h=>hc.dk vs (h.trans (hc.kd _))
section
variable {D α:Type}{S:Sh D}
def cMap (inj:α->D)(prj:D->Option α):Cod D α:=⟨1,fun a=>[.dat (inj a)],fun xs=>match xs with
 | [.dat d]=>prj d
 | _=>none⟩
theorem cMap_ok {inj:α->D}{prj:D->Option α}(hp:∀d a,prj d=some a->d=inj a):CodOk S (cMap inj prj):=by
 refine⟨fun xs a h=> ?_,fun a=>rfl,fun a x hx=> ?_⟩
 ·simp only[cMap]at h⊢
  split at h
  ·rw[hp _ _ h]
   exact⟨.inl rfl,rfl,trivial⟩
  ·cases h
 ·simp only[cMap,List.mem_singleton]at hx
  subst hx
  rfl
def bMap (inj:α->D)(prj:D->Option α):Blk D α:=⟨fun a=> .map (inj a),fun x=>match x with
 | .map d=>prj d
 | _=>none⟩
theorem bMap_ok {inj:α->D}{prj:D->Option α}(hp:∀d a,prj d=some a->d=inj a):BlkOk S (bMap inj prj):=⟨fun x a h=>by
 simp only[bMap]at h⊢
 split at h
 ·exact hp _ _ h
 ·cases h⟩
def bPtr (n:Nat):Blk D Unit:=⟨fun _=> .cells [.own n],fun x=>match x with
 | .cells [.own k]=>if Nat.beq k n then some ()else none
 | _=>none⟩
instance bPtr_ok (n:Nat):BlkOk S (bPtr (D:=D) n):=⟨fun x a h=>by
 simp only[bPtr]at h⊢
 split at h
 ·split at h
  ·rename_i he
   rw[Nat.eq_of_beq_eq_true he]
   exact⟨.inl rfl,trivial⟩
  ·cases h
 ·cases h⟩
def bLit (k:IntKind)(n:Int):Blk D Unit:=⟨fun _=> .cells [.int k n],fun x=>match x with
 | .cells [.int k' m]=>if kEq k' k && decide (m=n)then some ()else none
 | _=>none⟩
instance bLit_ok (k:IntKind) (n:Int):BlkOk S (bLit (D:=D) k n):=⟨fun x a h=>by
 simp only[bLit]at h⊢
 split at h
 ·split at h
  ·rename_i k' m hc
   simp only[Bool.and_eq_true,decide_eq_true_eq,kEq,beq_iff_eq]at hc
   rw[hc.1,hc.2]
   exact⟨.inl rfl,trivial⟩
  ·cases h
 ·cases h⟩
def bFn (f:Nat)(caps:List Nat):Blk D Unit:=⟨fun _=> .cells [.fn f caps],fun x=>match x with
 | .cells [.fn f' caps']=>if Nat.beq f f' && eqIds caps caps' then some ()else none
 | _=>none⟩
instance bFn_ok (f:Nat) (caps:List Nat):BlkOk S (bFn (D:=D) f caps):=⟨fun x a h=>by
 simp only[bFn]at h⊢
 split at h
 ·split at h
  ·rename_i hc
   simp only[Bool.and_eq_true]at hc
   rw[<-Nat.eq_of_beq_eq_true hc.1,<-eqIds_eq hc.2]
   exact⟨.inl rfl,trivial⟩
  ·cases h
 ·cases h⟩
end
end Go.Vc
namespace Go.Vc
set_option linter.unusedVariables false
set_option linter.unusedSimpArgs false
theorem goes_no {P:Program}(h:P.funcs.any Func.goes=false)(f:FuncId):P.goes f=false:=by
 have key:∀g:Nat,(P.funcs[g]?).any Func.goes=false:=fun g=>by
  cases hg:P.funcs[g]? with
  | none=>rfl
  | some fn=>
   show fn.goes=false
   obtain⟨hi,he⟩:=Array.getElem?_eq_some_iff.1 hg
   have:=Array.any_eq_false.1 h g hi
   rw[he]at this
   simpa using this
 unfold Program.goes
 rw[h,Bool.and_false,Bool.or_false,List.any_eq_false]
 intro g _
 simp[key g]
theorem goesBy_no {P:Program}{c:OpenClaim}(h:P.funcs.any Func.goes=false)(hs:c.start= .entering):false=c.goesBy P:=by
 unfold OpenClaim.goesBy Program.goesAt Program.goesFrom
 rw[hs]
 cases hf:P.funcNamed c.func with
 | none=>rfl
 | some f=>simp[goes_no h f]
end Go.Vc
